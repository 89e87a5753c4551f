/- The engine, all parts; small laws of heaps. -/
import Derived.Test.YtccgplomnjpniaaEng7
namespace Go.Eng
open Go Go.RowKit
theorem pm_here {ob G : Hp} : (ob ++ G).Perm (ob ++ G) := List.Perm.refl _
theorem pm_cons {ob G H : Hp} {x : Nat × Blk} (h : (ob ++ G).Perm H) : (ob ++ x :: G).Perm (x :: H) := List.perm_middle.trans (h.cons x)
theorem RetV.no {p : Prop} {i : Decidable p} {w w' : World} (h : ¬ p) (hb : Below w.heap.size w w') : RetV w (.bool (@decide p i)) (.returned (.bool false)) w' := ⟨by rw [decide_eq_false h], hb⟩
theorem RetV.yes {p : Prop} {i : Decidable p} {w w' : World} (h : p) (hb : Below w.heap.size w w') : RetV w (.bool (@decide p i)) (.returned (.bool true)) w' := ⟨by rw [decide_eq_true h], hb⟩
end Go.Eng
