/- The functions' contracts, those above the sort. Printed by go3.py. No conditions. -/
import Derived.Test.YtkkbdleogkengaaDoorF44C1
import Derived.Test.YtkkbdleogkengaaDoorZB
set_option linter.all false
set_option maxRecDepth 100000
open Go Go.Rx Go.Proofs Go.RowKit
namespace GoForm
noncomputable def c_23 : Con Tryd.prog tb cd := ⟨23, [.d Ix.tsl_Event], [Ix.tsl_Event], [], fun a => event_Sort a.1, Tryd.call23, fun a avs r h hf => sort_ok a avs r h hf⟩
noncomputable def c_22 : Con Tryd.prog tb cd := ⟨22, [.d Ix.tsl_Event, .d Ix.tsl_Event], [Ix.tbool], [], fun a => caromref38_EqualEvents a.1 a.2.1, Tryd.call22, con_ok (cx := cx [] []) (im := fun _ => false) (bar := barF [(6, 8)]) (an := (.t none .n (.t none .n (.t none (.t none .n (.t none (.t (some ⟨[.val 5 .tint []], []⟩) .n .n) .n)) .n)))) Tryd.func22 rfl rfl rfl (fun _ => rfl) (fun d => by kernel_rfl)⟩
noncomputable def c_9 : Con Tryd.prog tb cd := ⟨9, [.d Ix.tsl_Event, .d Ix.tbyte], [Ix.tbool], [], fun a => caromlaw44_EventSort a.1 a.2.1, Tryd.call9, con_ok (cx := cx [c_10, c_23, c_17, c_25, c_22] []) (im := fun _ => false) (bar := barF [(9, 9)]) (an := (.t none .n (.t none .n (.t none .n (.t none .n (.t none (.t none .n (.t none (.t (some ⟨[.val 6 .tint []], []⟩) .n .n) .n)) (.t none .n (.t (some ⟨[.val 7 .tint []], []⟩) .n (.t none .n (.t none .n (.t none .n (.t none (.t none .n (.t none (.t (some ⟨[.val 9 .tint []], []⟩) .n .n) .n)) .n)))))))))))) Tryd.func9 rfl rfl rfl (fun _ => rfl) (fun d => by kernel_rfl)⟩
end GoForm
