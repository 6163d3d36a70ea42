/- The package's variable errors.errorType is known: contracts of recording.Parse, of the example and of the laws. No conditions. -/
import Derived.Test.YtffgldbihpgjgaaGreatDoorGU
import Derived.Test.YtffgldbihpgjgaaGreatDoorGV
import Derived.Test.YtffgldbihpgjgaaGreatDoorGV
set_option linter.all false
set_option maxRecDepth 100000
open Go Go.Rx Go.Proofs Go.RowKit
namespace GoForm
noncomputable instance gl47:GlC:=⟨fun m=>m 0 0=some (.iface 190 (.agg #[.pointer (some ⟨4,95,none⟩)])),fun h e=>h _ _ _ e⟩
theorem UW {s:List UInt8} {r:List (List Input) × Int × Int} (h:yx s=some r):FnR Tryz.prog 16 [qY s] (.tup [jw r.1,.v (.int .i64 r.2.1),.v (.int .i64 r.2.2)]) []:=by
 intro w m vs hgl hi hr
 have hr:Jq m je [AV.v (.string ⟨s.toArray⟩)] vs:=hr
 obtain ⟨t,rfl,hr2⟩:=hr.invV
 obtain rfl:=hr2.inv0
 have hg:m 0 0=some (.iface 190 (.agg #[.pointer (some ⟨4,95,none⟩)])):=hgl
 refine (jaJ s r h m w hi hg).mono ?_
 rintro e w' ⟨v,rfl,M',hb,him,hle,hn,hv⟩
 refine ⟨_,Uf w.heap.size M' w',je,rfl,hb,⟨XJ him,fun b o v e=>Xx him b o v (hle b o v e),?_,by simp [find],by simp [find],by simp [je],by simp [je],hgl⟩,fun _ _=>rfl,.tup (.cons hv (.cons .v (.cons .v .nil)))⟩
 intro b o v e
 unfold Uf at e
 by_cases h:w.heap.size<=b
 ·exact .inr h
 ·rw [if_neg h] at e;exact hn b o v e
noncomputable def c_26:Con Tryz.prog tb cd:=⟨26,[.d Ix.tsl_sl_Input,.d Ix.tint,.d Ix.tsl_Input],[Ix.tsl_sl_Input,Ix.tint],[],fun a=>QJ a.1 a.2.1 a.2.2.1,Tryz.call26,fun a avs r ha hf=>by
 match avs,ha with
 | [x0,x1,x2],h=>obtain ⟨h0,h1,h2,_⟩:=h;cases h0;cases h1;cases h2;exact uQ hf⟩
noncomputable def c_16:Con Tryz.prog tb cd:=⟨16,[.d Ix.tstr],[Ix.tsl_sl_Input,Ix.tint,Ix.tint],[],fun a=>yx a.1,Tryz.call16,fun a avs r ha hf=>by
 match avs,ha with
 | [x0],h=>obtain ⟨h0,_⟩:=h;cases h0;exact UW hf⟩
noncomputable def c_13:Con Tryz.prog tb cd:=⟨13,[.d Ix.tsl_byte],[Ix.tsl_sl_Input,Ix.tint],[],fun a=>JN a.1,Tryz.call13,fun a avs r ha hf=>by
 match avs,ha with
 | [x0],h=>obtain ⟨h0,_⟩:=h;cases h0;exact uP hf⟩
noncomputable def c_11:Con Tryz.prog tb cd:=⟨11,[],[Ix.tbool],[],fun a=>Yk ,Tryz.call11,Ja (cx:=cx [c_35,c_26,c_15,c_16,c_12,c_13,c_20,c_28,c_33] []) (im:=fun _=>false) (bar:=YW []) (an:=.n) Tryz.func11 rfl rfl rfl (fun _=>rfl) (fun d=>by kernel_rfl)⟩
noncomputable def c_3:Con Tryz.prog tb cd:=⟨3,[.d Ix.tsl_sl_Input,.d Ix.tsl_byte,.d Ix.tstr],[Ix.tbool],[],fun a=>JO a.1 a.2.1 a.2.2.1,Tryz.call3,Ja (cx:=cx [c_10,c_11,c_12,c_13,c_14,c_15,c_16,c_17,jcC] []) (im:=fun _=>false) (bar:=YW []) (an:=(.t none .n (.t none .n (.t none .n (.t (some ⟨[],[]⟩) .n (.t none .n (.t (some ⟨[],[]⟩) .n (.t none .n (.t (some ⟨[],[]⟩) .n (.t none .n (.t (some ⟨[],[]⟩) .n .n))))))))))) Tryz.func3 rfl rfl rfl (fun _=>rfl) (fun d=>by kernel_rfl)⟩
end GoForm
