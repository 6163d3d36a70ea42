/- The package's variable errors.errorType is known: contracts of recording.Parse, of the example and of the laws. No conditions. -/
import Derived.Test.YtffgldbihpgjgaaGreatDoorGW
import Derived.Test.YtffgldbihpgjgaaGreatDoorGV
import Derived.Test.YtffgldbihpgjgaaGreatDoorGV
import Derived.Test.YtffgldbihpgjgaaGreatDoorGV
set_option linter.all false
set_option maxRecDepth 100000
open Go Go.Rx Go.Proofs Go.RowKit
namespace GoForm
noncomputable instance gl47:GlC:=⟨fun m=>m 0 0=some (.iface 190 (.agg #[.pointer (some ⟨4,95,none⟩)])),fun h e=>h _ _ _ e⟩
theorem jjL {s:List UInt8} {r:List (List Input) × Int × Int} (h:ji0 s=some r):FnR Tryz.prog 16 [jh0 s] (.tup [jam r.1,.v (.int .i64 r.2.1),.v (.int .i64 r.2.2)]) []:=by
  unfold ji0 at h
  split at h
  · rename_i hs
    subst hs
    cases h
    intro w m vs hgl hi hr
    have hr:Reps m jab [AV.v (.string ⟨exS.toArray⟩)] vs:=hr
    obtain ⟨t,rfl,hr2⟩:=hr.invV
    obtain rfl:=hr2.inv0
    have hg:m 0 0=some (.iface 190 (.agg #[.pointer (some ⟨4,95,none⟩)])):=hgl
    refine (jkw w (hi 0 0 _ hg)).mono ?_
    rintro e w' ⟨rfl,hb⟩
    exact ⟨_,m,jab,rfl,hb,⟨hi.below hb,Mem.le.refl m,fun _ _ _ h=>.inl h,by simp [find],by simp [find],by simp [jab],by simp [jab],hgl⟩,fun _ _=>rfl,.tup (.cons .slnil (.cons .v (.cons .v .nil)))⟩
  · cases h
noncomputable def c_26:Con Tryz.prog tb cd:=⟨26,[.d Ix.tsl_sl_Input,.d Ix.tint,.d Ix.tsl_Input],[Ix.tsl_sl_Input,Ix.tint],[],fun a=>jdu a.1 a.2.1 a.2.2.1,Tryz.call26,fun a avs r ha hf=>by
 match avs,ha with
 | [x0,x1,x2],h=>obtain ⟨h0,h1,h2,_⟩:=h;cases h0;cases h1;cases h2;exact ji2 hf⟩
noncomputable def c_16:Con Tryz.prog tb cd:=⟨16,[.d Ix.tstr],[Ix.tsl_sl_Input,Ix.tint,Ix.tint],[],fun a=>jfa a.1,Tryz.call16,fun a avs r ha hf=>by
 match avs,ha with
 | [x0],h=>obtain ⟨h0,_⟩:=h;cases h0;exact jjL hf⟩
noncomputable def c_13:Con Tryz.prog tb cd:=⟨13,[.d Ix.tsl_byte],[Ix.tsl_sl_Input,Ix.tint],[],fun a=>jcJ a.1,Tryz.call13,fun a avs r ha hf=>by
 match avs,ha with
 | [x0],h=>obtain ⟨h0,_⟩:=h;cases h0;exact ji1 hf⟩
noncomputable def c_11:Con Tryz.prog tb cd:=⟨11,[],[Ix.tbool],[],fun a=>jbY ,Tryz.call11,jau (cx:=cx [c_35,c_26,c_15,c_16,c_12,c_13,c_20,c_28,c_33] []) (im:=fun _=>false) (bar:=barF []) (an:=.n) Tryz.func11 rfl rfl rfl (fun _=>rfl) (fun d=>by kernel_rfl)⟩
noncomputable def c_5:Con Tryz.prog tb cd:=⟨5,[.d Ix.tsl_sl_Input,.d Ix.tsl_byte],[Ix.tbool],[],fun a=>jbh a.1 a.2.1,Tryz.call5,jau (cx:=cx [c_10,c_11,c_12,c_21,c_13,c_22,c_17,c_14] []) (im:=fun _=>false) (bar:=barF []) (an:=.n) Tryz.func5 rfl rfl rfl (fun _=>rfl) (fun d=>by kernel_rfl)⟩
end GoForm
