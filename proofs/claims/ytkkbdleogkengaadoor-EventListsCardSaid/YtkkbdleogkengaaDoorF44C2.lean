/- The functions' contracts, those above the sort. Printed by go3.py. No conditions. -/
import Derived.Test.YtkkbdleogkengaaDoorF44C1
import Derived.Test.YtkkbdleogkengaaDoorZB
set_option linter.all false
set_option maxRecDepth 100000
open Go Go.Rx Go.Proofs Go.RowKit
namespace GoForm
noncomputable def c_23 : Con Tryd.prog tb cd := ⟨23, [.d Ix.tsl_Event], [Ix.tsl_Event], [], fun a => event_Sort a.1, Tryd.call23, fun a avs r h hf => sort_ok a avs r h hf⟩
noncomputable def c_24 : Con Tryd.prog tb cd := ⟨24, [.d Ix.tsl_Event], [Ix.tsl_Event], [0], fun a => caromref44_Sort a.1, Tryd.call24, con_ok (cx := cx [c_18] []) (im := fun _ => false) (bar := barF [(6, 12)]) (an := (.t none .n (.t none .n (.t none (.t none .n (.t none (.t (some ⟨[.val 3 .tsl_Event [0], .val 4 .tint []], []⟩) (.t none .n (.t none (.t none (.t none .n (.t none (.t none (.t (some ⟨[.val 5 .tint []], []⟩) .n .n) .n) .n)) .n) .n)) .n) .n)) .n)))) Tryd.func24 rfl rfl rfl (fun _ => rfl) (fun d => by kernel_rfl)⟩
noncomputable def c_22 : Con Tryd.prog tb cd := ⟨22, [.d Ix.tsl_Event, .d Ix.tsl_Event], [Ix.tbool], [], fun a => caromref38_EqualEvents a.1 a.2.1, Tryd.call22, con_ok (cx := cx [] []) (im := fun _ => false) (bar := barF [(6, 8)]) (an := (.t none .n (.t none .n (.t none (.t none .n (.t none (.t (some ⟨[.val 5 .tint []], []⟩) .n .n) .n)) .n)))) Tryd.func22 rfl rfl rfl (fun _ => rfl) (fun d => by kernel_rfl)⟩
noncomputable def c_26 : Con Tryd.prog tb cd := ⟨26, [.d Ix.tsl_Event, .d Ix.tint], [Ix.tint], [], fun a => caromref44_Count a.1 a.2.1, Tryd.call26, con_ok (cx := cx [] []) (im := fun _ => false) (bar := barF []) (an := (.t none .n (.t none .n (.t none (.t none .n (.t none (.t (some ⟨[.val 5 .tint [], .val 6 .tint []], []⟩) (.t none .n (.t (some ⟨[.val 5 .tint []], []⟩) .n .n)) .n) .n)) .n)))) Tryd.func26 rfl rfl rfl (fun _ => rfl) (fun d => by kernel_rfl)⟩
noncomputable def c_28 : Con Tryd.prog tb cd := ⟨28, [.d Ix.tsl_Event, .d Ix.tint], [Ix.tsl_Event], [], fun a => caromref44_ForBody a.1 a.2.1, Tryd.call28, con_ok (cx := cx [] []) (im := fun _ => false) (bar := barF []) (an := (.t none .n (.t none .n (.t none (.t none .n (.t none (.t (some ⟨[.val 5 .tsl_Event [0], .val 6 .tint []], []⟩) (.t none .n (.t (some ⟨[.val 5 .tsl_Event [0]], []⟩) .n .n)) .n) .n)) .n)))) Tryd.func28 rfl rfl rfl (fun _ => rfl) (fun d => by kernel_rfl)⟩
noncomputable def c_8 : Con Tryd.prog tb cd := ⟨8, [.d Ix.tsl_Event, .d Ix.tint, .d Ix.tint], [Ix.tbool], [], fun a => caromlaw44_EventLists a.1 a.2.1 a.2.2.1, Tryd.call8, con_ok (cx := cx [c_10, c_23, c_24, c_22, c_25, c_26, c_27, c_28] []) (im := fun _ => false) (bar := barF []) (an := .n) Tryd.func8 rfl rfl rfl (fun _ => rfl) (fun d => by kernel_rfl)⟩
end GoForm
