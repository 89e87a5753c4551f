/- The engine: short forms for what lays a block. -/
import Derived.Test.YtkpkebpofpcmaaaGreatDoorEngP
namespace Go.Eng
open Go Go.RowKit
theorem zb {A B : Prop} (k : A) (h : Hd A → B := by
  intro _K
  apply TL_box; exact rfl; exact rfl; exact rfl
  exact _K.h) : B := h ⟨k⟩
theorem za {A B : Prop} (k : A) (h : Hd A → B := by
  intro _K
  apply TL_alloc; exact rfl
  exact _K.h) : B := h ⟨k⟩
theorem zs {A B : Prop} (k : A) (h : Hd A → B := by
  intro _K
  apply TL_buildSlice; exact rfl; exact rfl; exact rfl; exact rfl; exact rfl
  exact _K.h) : B := h ⟨k⟩
end Go.Eng
