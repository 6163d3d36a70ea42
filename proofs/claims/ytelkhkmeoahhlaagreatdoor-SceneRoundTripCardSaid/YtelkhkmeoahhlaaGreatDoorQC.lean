/- Several texts in one. No conditions. -/
import Derived.Test.YtelkhkmeoahhlaaGreatDoorQB
section
set_option linter.all false
namespace Go.Rx
section
open Go.RowKit
variable [GlC]
def got {α ρ:Type} (m:Option α) (k:α->Option ρ):Option ρ:=(fun (_:Unit)=>match m with | some a=>k a | none=>none) hh120
theorem got_e {α ρ:Type} {m:Option α} {k:α->Option ρ} {r:ρ} (h:got m k=some r):∃ a,m=some a/\k a=some r:=by
 unfold got at h;split at h
 ·exact ⟨_,rfl,h⟩
 ·cases h
def tst {ρ:Type} (b:Bool) (k:Option ρ):Option ρ:=(fun (_:Unit)=>match b with | true=>k | false=>none) hh120
theorem tst_e {ρ:Type} {b:Bool} {k:Option ρ} {r:ρ} (h:tst b k=some r):b=true/\k=some r:=by
 unfold tst at h;split at h
 ·exact ⟨rfl,h⟩
 ·cases h
section
variable {P:Program} {tb:Tb} {ρ:Type}
def QOk (P:Program) (L:SLS tb) (G:Gd) (o:Oper) (k:SV tb->List Nat->Option ρ) (r:ρ):Prop:=
 ∃ x need,k x need=some r/\(Gu L G->QEx P o L.E (needAV L need) x.av)
def asI:SV tb->Option (IntKind × Int)
 | .i k n=>some (k,n)
 | .con (.int k n)=>some (k,n)
 | _=>none
theorem asI_e {x:SV tb} {p} (h:asI x=some p):x.av=.v (.int p.1 p.2):=by
 unfold asI at h;split at h
 ·cases h;rfl
 ·cases h;rfl
 ·cases h
def isByte (n:Int):Bool:=match n with | .ofNat m=>Nat.blt m 256 | .negSucc _=>false
theorem isByte_e {n:Int} (h:isByte n=true):0<=n/\n<256:=by
 unfold isByte at h;split at h
 ·have:=Nat.le_of_ble_eq_true h
  simp;omega
 ·cases h
def asC:SV tb->Option UInt8
 | .b8 c=>some c
 | .con (.int .u8 n)=>(match isByte n with | true=>some (toByte n) | false=>none)
 | _=>none
theorem asC_e {x:SV tb} {c} (h:asC x=some c):x.av=byteAV c:=by
 unfold asC at h;split at h
 ·cases h;rfl
 ·split at h
  ·rename_i hb;cases h
   show AV.v _=byteAV _
   unfold byteAV;rw [toByte_toNat (isByte_e hb)]
  ·cases h
 ·cases h
theorem boolOf_e {x:SV tb} {b} (h:boolOf x=some b):x.av=bAV b:=boolOf_av h
def asS:SV tb->Option (List UInt8)
 | .st s=>some s
 | .con (.string s)=>some s.data.toList
 | _=>none
theorem asS_e {x:SV tb} {s} (h:asS x=some s):x.av=sAV s:=by
 unfold asS at h;split at h
 ·cases h;rfl
 ·cases h;show AV.v _=AV.v _;rw [str_mk]
 ·cases h
def nz (x:SV tb) (G:Gd) (n:Int) (k:Option ρ):Option ρ:=match x with
 | .con _=>tst (decide (n≠0)) k
 | _=>chk G (n≠0) k
theorem nz_e {x:SV tb} {G n} {k:Option ρ} {r} (h:nz x G n k=some r):(gc G=true->n≠0)/\k=some r:=by
 unfold nz at h;split at h
 ·obtain ⟨h1,h⟩:=tst_e h;exact ⟨fun _=>of_decide_eq_true h1,h⟩
 ·exact chk_e h
def nn (x:SV tb) (G:Gd) (n:Int) (k:Option ρ):Option ρ:=match x with
 | .con _=>tst (decide (0<=n)) k
 | _=>chk G (0<=n) k
theorem nn_e {x:SV tb} {G n} {k:Option ρ} {r} (h:nn x G n k=some r):(gc G=true->0<=n)/\k=some r:=by
 unfold nn at h;split at h
 ·obtain ⟨h1,h⟩:=tst_e h;exact ⟨fun _=>of_decide_eq_true h1,h⟩
 ·exact chk_e h
def binInt (G:Gd) (op:BinOp) (z:SV tb) (ki:IntKind) (a b:Int) (k:SV tb->List Nat->Option ρ):Option ρ:=match op with
 | .add=>Let (ki.wrap (a+b)) fun n=>k (.i ki n) []
 | .sub=>Let (ki.wrap (a - b)) fun n=>k (.i ki n) []
 | .mul=>Let (ki.wrap (a*b)) fun n=>k (.i ki n) []
 | .and=>Let (bAnd ki a b) fun n=>k (.i ki n) []
 | .or=>Let (bOr ki a b) fun n=>k (.i ki n) []
 | .xor=>Let (bXor ki a b) fun n=>k (.i ki n) []
 | .eql=>Let (a==b) fun t=>k (.bo t) []
 | .neq=>Let (a != b) fun t=>k (.bo t) []
 | .lss=>Let (decide (a<b)) fun t=>k (.bo t) []
 | .leq=>Let (decide (a<=b)) fun t=>k (.bo t) []
 | .gtr=>Let (decide (a>b)) fun t=>k (.bo t) []
 | .geq=>Let (decide (a>=b)) fun t=>k (.bo t) []
 | .quo=>nz z G b (Let (ki.wrap (a.tdiv b)) fun n=>k (.i ki n) [])
 | .rem=>nz z G b (Let (a.tmod b) fun n=>k (.i ki n) [])
 | _=>none
theorem binInt_ok {L:SLS tb} {G o op t y z yt ki a b zs} {k:SV tb->List Nat->Option ρ} {r} (ho:o.op=.binOp op t y z yt) (hy:Gu L G->OpdOk L.E y (.v (.int ki a))) (hz:Gu L G->OpdOk L.E z (.v (.int ki b)))
 (h:binInt G op zs ki a b k=some r):QOk P L G o k r:=by
 unfold binInt at h
 split at h
 all_goals first
  | cases h;done
  | exact ⟨_,[],h,fun u=>QEx.binI ho (hy u) (hz u) rfl⟩
  | (obtain ⟨h1,h⟩:=nz_e h;exact ⟨_,[],h,fun u=>QEx.quo ho (hy u) (hz u) (h1 u.on)⟩)
  | (obtain ⟨h1,h⟩:=nz_e h;exact ⟨_,[],h,fun u=>QEx.rem ho (hy u) (hz u) (h1 u.on)⟩)
def binByte (G:Gd) (op:BinOp) (p q:UInt8) (k:SV tb->List Nat->Option ρ):Option ρ:=match op with
 | .add=>Let (p+q) fun n=>k (.b8 n) []
 | .sub=>Let (p - q) fun n=>k (.b8 n) []
 | .rem=>chk G (q≠0) (Let (p % q) fun n=>k (.b8 n) [])
 | .eql=>Let (p==q) fun t=>k (.bo t) []
 | .neq=>Let (p != q) fun t=>k (.bo t) []
 | .lss=>Let (decide (p<q)) fun t=>k (.bo t) []
 | .leq=>Let (decide (p<=q)) fun t=>k (.bo t) []
 | .gtr=>Let (decide (q<p)) fun t=>k (.bo t) []
 | .geq=>Let (decide (q<=p)) fun t=>k (.bo t) []
 | _=>none
theorem binByte_ok {L:SLS tb} {G o op t y z yt a b} {k:SV tb->List Nat->Option ρ} {r} (ho:o.op=.binOp op t y z yt) (hy:Gu L G->OpdOk L.E y (byteAV a)) (hz:Gu L G->OpdOk L.E z (byteAV b))
 (h:binByte G op a b k=some r):QOk P L G o k r:=by
 unfold binByte at h
 split at h
 ·exact ⟨_,[],h,fun u=>QEx.addC ho (hy u) (hz u)⟩
 ·exact ⟨_,[],h,fun u=>QEx.subC ho (hy u) (hz u)⟩
 ·obtain ⟨h1,h⟩:=chk_e h;exact ⟨_,[],h,fun u=>QEx.remC ho (hy u) (hz u) (h1 u.on)⟩
 ·exact ⟨_,[],h,fun u=>QEx.eqlC ho (hy u) (hz u)⟩
 ·exact ⟨_,[],h,fun u=>QEx.neqC ho (hy u) (hz u)⟩
 ·exact ⟨_,[],h,fun u=>QEx.lssC ho (hy u) (hz u)⟩
 ·exact ⟨_,[],h,fun u=>QEx.leqC ho (hy u) (hz u)⟩
 ·exact ⟨_,[],h,fun u=>QEx.gtrC ho (hy u) (hz u)⟩
 ·exact ⟨_,[],h,fun u=>QEx.geqC ho (hy u) (hz u)⟩
 ·cases h
def binStr (G:Gd) (op:BinOp) (p q:List UInt8) (k:SV tb->List Nat->Option ρ):Option ρ:=match op with
 | .add=>chk G (p.length+q.length<=9223372036854775807) (Let (p++q) fun n=>k (.st n) [])
 | .eql=>Let (p==q) fun t=>k (.bo t) []
 | .neq=>Let (p != q) fun t=>k (.bo t) []
 | .lss=>Let (strLess p q) fun t=>k (.bo t) []
 | _=>none
theorem binStr_ok {L:SLS tb} {G o op t y z yt a b} {k:SV tb->List Nat->Option ρ} {r} (ho:o.op=.binOp op t y z yt) (hy:Gu L G->OpdOk L.E y (sAV a)) (hz:Gu L G->OpdOk L.E z (sAV b))
 (h:binStr G op a b k=some r):QOk P L G o k r:=by
 unfold binStr at h
 split at h
 ·obtain ⟨h1,h⟩:=chk_e h;exact ⟨_,[],h,fun u=>QEx.addS ho (hy u) (hz u) (h1 u.on)⟩
 ·exact ⟨_,[],h,fun u=>QEx.eqlS ho (hy u) (hz u)⟩
 ·exact ⟨_,[],h,fun u=>QEx.neqS ho (hy u) (hz u)⟩
 ·exact ⟨_,[],h,fun u=>QEx.lssS ho (hy u) (hz u)⟩
 ·cases h
def binBool (op:BinOp) (p q:Bool) (k:SV tb->List Nat->Option ρ):Option ρ:=match op with
 | .eql=>Let (p==q) fun t=>k (.bo t) []
 | .neq=>Let (p != q) fun t=>k (.bo t) []
 | _=>none
def isBoolD:TypeDesc->Bool
 | .bool=>true
 | _=>false
theorem isBoolD_e {d} (h:isBoolD d=true):d=.bool:=by unfold isBoolD at h;split at h;rfl;cases h
theorem binBool_ok {L:SLS tb} {G o op t y z yt a b} {k:SV tb->List Nat->Option ρ} {r} (ht:P.underlying t=some .bool) (ho:o.op=.binOp op t y z yt) (hy:Gu L G->OpdOk L.E y (bAV a)) (hz:Gu L G->OpdOk L.E z (bAV b))
 (h:binBool op a b k=some r):QOk P L G o k r:=by
 unfold binBool at h
 split at h
 ·exact ⟨_,[],h,fun u=>QEx.binB ho (hy u) (hz u) rfl ht⟩
 ·exact ⟨_,[],h,fun u=>QEx.binB ho (hy u) (hz u) rfl ht⟩
 ·cases h
def findEq (t:Nat):List (EqE P tb)->Option (EqE P tb)
 | []=>none
 | e::r=>match Nat.beq e.t t with | true=>some e | false=>findEq t r
theorem findEq_t {t:Nat}:∀ {l:List (EqE P tb)} {e},findEq t l=some e->e.t=t
 | [],_,h=>by simp [findEq] at h
 | e::r,e',h=>by
   simp only [findEq] at h
   split at h
   ·rename_i hb;cases h;exact Nat.eq_of_beq_eq_true hb
   ·exact findEq_t h
def binAgg (cx:Ctx P tb) (op:BinOp) (t yt:Nat) (a b:SV tb) (k:SV tb->List Nat->Option ρ):Option ρ:=
 tst (Nat.beq yt t) <| got (findEq t cx.eqs) fun e=>got ((cx.cd e.i).of a) fun x=>got ((cx.cd e.i).of b) fun y=>match op with
  | .eql=>Let (e.beq x y) fun t=>k (.bo t) []
  | .neq=>Let (!e.beq x y) fun t=>k (.bo t) []
  | _=>none
theorem OpdOk.sub {e:Env} {y x x'} (h:OpdOk e y x) (s:Sub x x'):OpdOk e y x':=fun m bl a hr=>s m bl _ (h m bl a hr)
theorem binAgg_ok {cx:Ctx P tb} {L:SLS tb} {G o op t y z yt a b} {k:SV tb->List Nat->Option ρ} {r} (ho:o.op=.binOp op t y z yt) (hy:Gu L G->OpdOk L.E y a.av) (hz:Gu L G->OpdOk L.E z b.av)
 (h:binAgg cx op t yt a b k=some r):QOk P L G o k r:=by
 unfold binAgg at h
 obtain ⟨ht,h⟩:=tst_e h
 have ht:=Nat.eq_of_beq_eq_true ht
 obtain ⟨e,he,h⟩:=got_e h
 obtain ⟨x,hx,h⟩:=got_e h
 obtain ⟨x',hx',h⟩:=got_e h
 have h1:=fun u=>(hy u).sub ((cx.ok e.i).of _ _ hx)
 have h2:=fun u=>(hz u).sub ((cx.ok e.i).of _ _ hx')
 have:=e.ok
 rw [findEq_t he] at this
 rw [ht] at ho
 split at h
 ·exact ⟨_,[],h,fun u=>QEx.eqlA ho this (h1 u) (h2 u)⟩
 ·exact ⟨_,[],h,fun u=>QEx.neqA ho this (h1 u) (h2 u)⟩
 ·cases h
def conP:SV tb->SV tb->Option (IntKind × Int × Int)
 | .con (.int k n),.con (.int k' n')=>(match decide (k=k') with | true=>some (k,n,n') | false=>none)
 | _,_=>none
theorem conP_e {x y:SV tb} {p} (h:conP x y=some p):x.av=.v (.int p.1 p.2.1)/\y.av=.v (.int p.1 p.2.2):=by
 unfold conP at h
 split at h
 ·split at h
  ·rename_i hd
   have:=of_decide_eq_true hd
   subst this
   cases h;exact ⟨rfl,rfl⟩
  ·cases h
 ·cases h
def foldI (op:BinOp) (ki:IntKind) (a b:Int):Option Value:=match op with
 | .add=>some (.int ki (ki.wrap (a+b)))
 | .sub=>some (.int ki (ki.wrap (a - b)))
 | .eql=>some (.bool (a==b))
 | .neq=>some (.bool (a != b))
 | .lss=>some (.bool (decide (a<b)))
 | .leq=>some (.bool (decide (a<=b)))
 | .gtr=>some (.bool (decide (a>b)))
 | .geq=>some (.bool (decide (a>=b)))
 | _=>none
def fold2 (op:BinOp) (x y:SV tb):Option Value:=match conP x y with
 | some p=>foldI op p.1 p.2.1 p.2.2
 | none=>none
theorem foldI_ok {L:SLS tb} {G o op t y z yt ki a b v} {k:SV tb->List Nat->Option ρ} {r} (ho:o.op=.binOp op t y z yt) (hy:Gu L G->OpdOk L.E y (.v (.int ki a))) (hz:Gu L G->OpdOk L.E z (.v (.int ki b)))
 (hf:foldI op ki a b=some v) (h:k (.con v) []=some r):QOk P L G o k r:=by
 unfold foldI at hf
 split at hf
 all_goals first | (cases hf;exact ⟨_,[],h,fun u=>QEx.binI ho (hy u) (hz u) rfl⟩) | cases hf
def isShift:BinOp->Bool
 | .shl=>true
 | .shr=>true
 | _=>false
def qShift (G:Gd) (op:BinOp) (z:SV tb) (ki:IntKind) (a b:Int) (k:SV tb->List Nat->Option ρ):Option ρ:=match op with
 | .shl=>nn z G b (Let (bShl ki a b) fun n=>k (.i ki n) [])
 | .shr=>nn z G b (Let (bShr ki a b) fun n=>k (.i ki n) [])
 | _=>none
def qBin (cx:Ctx P tb) (L:SLS tb) (G:Gd) (op:BinOp) (t:Nat) (y z:Operand) (yt:Nat) (k:SV tb->List Nat->Option ρ):Option ρ:=
 got (opd L G y) fun a=>got (opd L G z) fun b=>match fold2 op a b with
 | some v=>k (.con v) []
 | none=>match isShift op with
 | true=>got (asI a) fun p=>got (asI b) fun q=>qShift G op b p.1 p.2 q.2 k
 | false => match asI a,asI b with
   | some p,some q=>tst (decide (p.1=q.1)) (binInt G op b p.1 p.2 q.2 k)
   | _,_=>match asC a,asC b with
     | some p,some q=>binByte G op p q k
     | _,_=>match boolOf a,boolOf b with
       | some p,some q=>got (P.underlying t) fun d=>tst (isBoolD d) (binBool op p q k)
       | _,_=>match asS a,asS b with
         | some p,some q=>binStr G op p q k
         | _,_=>binAgg cx op t yt a b k
theorem qBin_ok {cx:Ctx P tb} {L:SLS tb} {G o op t y z yt} {k:SV tb->List Nat->Option ρ} {r} (ho:o.op=.binOp op t y z yt) (h:qBin cx L G op t y z yt k=some r):QOk P L G o k r:=by
 unfold qBin at h
 obtain ⟨a,ha,h⟩:=got_e h
 obtain ⟨b,hb,h⟩:=got_e h
 have hy:=fun u=>opd_ok (L:=L) (G:=G) u ha
 have hz:=fun u=>opd_ok (L:=L) (G:=G) u hb
 split at h
 ·rename_i v hv
  unfold fold2 at hv
  split at hv
  ·rename_i p hp
   obtain ⟨g1,g2⟩:=conP_e hp
   rw [g1] at hy;rw [g2] at hz
   exact foldI_ok ho hy hz hv h
  ·cases hv
 ·split at h
  ·obtain ⟨p,hp,h⟩:=got_e h
   obtain ⟨q,hq,h⟩:=got_e h
   rw [asI_e hp] at hy;rw [asI_e hq] at hz
   unfold qShift at h
   split at h
   ·obtain ⟨h1,h⟩:=nn_e h;exact ⟨_,[],h,fun u=>QEx.shl ho (hy u) (hz u) (h1 u.on)⟩
   ·obtain ⟨h1,h⟩:=nn_e h;exact ⟨_,[],h,fun u=>QEx.shr ho (hy u) (hz u) (h1 u.on)⟩
   ·cases h
  ·split at h
   ·rename_i p q hp hq
    obtain ⟨h1,h⟩:=tst_e h
    have h1:=of_decide_eq_true h1
    rw [asI_e hp] at hy;rw [asI_e hq,<- h1] at hz
    exact binInt_ok ho hy hz h
   ·split at h
    ·rename_i p q hp hq
     rw [asC_e hp] at hy;rw [asC_e hq] at hz
     exact binByte_ok ho hy hz h
    ·split at h
     ·rename_i p q hp hq
      obtain ⟨d,hd,h⟩:=got_e h
      obtain ⟨h1,h⟩:=tst_e h
      rw [isBoolD_e h1] at hd
      rw [boolOf_e hp] at hy;rw [boolOf_e hq] at hz
      exact binBool_ok hd ho hy hz h
     ·split at h
      ·rename_i p q hp hq
       rw [asS_e hp] at hy;rw [asS_e hq] at hz
       exact binStr_ok ho hy hz h
      ·exact binAgg_ok ho hy hz h
def qUn (L:SLS tb) (G:Gd) (op:UnOp) (y:Operand) (k:SV tb->List Nat->Option ρ):Option ρ:=
 got (opd L G y) fun a=>match op with
 | .not=>got (boolOf a) fun b=>Let (!b) fun t=>k (.bo t) []
 | .neg=>got (asI a) fun p=>Let (p.1.wrap (0 - p.2)) fun n=>k (.i p.1 n) []
 | _=>none
theorem qUn_ok {L:SLS tb} {G o op t y} {k:SV tb->List Nat->Option ρ} {r} (ho:o.op=.unOp op t y) (h:qUn L G op y k=some r):QOk P L G o k r:=by
 unfold qUn at h
 obtain ⟨a,ha,h⟩:=got_e h
 have hy:=fun u=>opd_ok (L:=L) (G:=G) u ha
 split at h
 ·obtain ⟨p,hp,h⟩:=got_e h
  rw [boolOf_e hp] at hy
  exact ⟨_,[],h,fun u=>QEx.not ho (hy u)⟩
 ·obtain ⟨p,hp,h⟩:=got_e h
  rw [asI_e hp] at hy
  exact ⟨_,[],h,fun u=>QEx.neg ho (hy u)⟩
 ·cases h
/-! conversions -/
def isIntD:TypeDesc->Option IntKind
 | .int k=>some k
 | _=>none
theorem isIntD_e {d k} (h:isIntD d=some k):d=.int k:=by unfold isIntD at h;split at h;cases h;rfl;cases h
def wideK:IntKind->Bool
 | .i64=>true
 | .u64=>true
 | .i32=>true
 | .u32=>true
 | .u16=>true
 | .i16=>true
 | _=>false
theorem wideK_e {k} (h:wideK k=true):k=.i64\/k=.u64\/k=.i32\/k=.u32\/k=.u16\/k=.i16:=by
 unfold wideK at h;split at h <;> simp at h ⊢
def isU8:IntKind->Bool
 | .u8=>true
 | _=>false
theorem isU8_e {k} (h:isU8 k=true):k=.u8:=by unfold isU8 at h;split at h;rfl;cases h
def isStrD:TypeDesc->Bool
 | .string=>true
 | _=>false
theorem isStrD_e {d} (h:isStrD d=true):d=.string:=by unfold isStrD at h;split at h;rfl;cases h
def isSlD:TypeDesc->Option Nat
 | .slice E=>some E
 | _=>none
theorem isSlD_e {d E} (h:isSlD d=some E):d=.slice E:=by unfold isSlD at h;split at h;cases h;rfl;cases h
theorem bytes_map {T:Type} {el:T->AV} (h:T=UInt8) (he:∀ x,el x=byteAV (cast h x)) (l:List T):l.map el=(cast (congrArg List h) l).map byteAV:=by
 subst h;exact List.map_congr_left fun x _=>he x
theorem bytes_map2 {T:Type} {el:T->AV} (h:T=UInt8) (he:∀ x,el x=byteAV (cast h x)) (l:List UInt8):(cast (congrArg List h).symm l).map el=l.map byteAV:=by
 subst h;exact List.map_congr_left fun x _=>he x
def bytesOf (tb:Tb) (E:tb.Ix) (l:List (tb.T E)):Option (List UInt8):=match tb.byte with
 | some b=>(match tb.dec E b.1 with | isTrue he=>some (cast (congrArg List ((congrArg tb.T he).trans (Classical.choose b.2))) l) | isFalse _=>none)
 | none=>none
theorem bytesOf_e {E l s} (h:bytesOf tb E l=some s):tb.sz E=1/\l.map (tb.el E)=s.map byteAV:=by
 unfold bytesOf at h
 split at h
 ·rename_i b _
  split at h
  ·rename_i he _
   cases h
   subst he
   obtain ⟨h1,h2⟩:=Classical.choose_spec b.2
   exact ⟨h1,bytes_map (Classical.choose b.2) h2 l⟩
  ·cases h
 ·cases h
def slB (tb:Tb) (s:List UInt8):Option (SV tb):=match tb.byte with
 | some b=>some (.sl false b.1 (cast (congrArg List (Classical.choose b.2)).symm s))
 | none=>none
theorem slB_e {s x} (h:slB tb s=some x):x.av=.sl false 1 (s.map byteAV):=by
 unfold slB at h
 split at h
 ·rename_i b _
  cases h
  obtain ⟨h1,h2⟩:=Classical.choose_spec b.2
  show AV.sl false (tb.sz b.1) (List.map (tb.el b.1) _)=_
  rw [h1,bytes_map2 (Classical.choose b.2) h2]
 ·cases h
def asSl:SV tb->Option ((E:tb.Ix) × List (tb.T E))
 | .sl _ E l=>some ⟨E,l⟩
 | .em E=>some ⟨E,[]⟩
 | _=>none
theorem asSl_e {x:SV tb} {p} (h:asSl x=some p):∃ c,x.av=.sl c (tb.sz p.1) (p.2.map (tb.el p.1)):=by
 unfold asSl at h;split at h
 ·cases h;exact ⟨_,rfl⟩
 ·cases h;exact ⟨_,rfl⟩
 ·cases h
def isNil:SV tb->Bool
 | .con (.slice none 0 0)=>true
 | _=>false
theorem isNil_e {x:SV tb} (h:isNil x=true):x.av=.v (.slice none 0 0):=by
 unfold isNil at h;split at h
 ·rfl
 ·cases h
def qConv (P:Program) (L:SLS tb) (G:Gd) (s d:Nat) (y:Operand) (k:SV tb->List Nat->Option ρ):Option ρ:=
 got (opd L G y) fun a=>got (P.underlying d) fun D=>got (P.underlying s) fun S=>match isIntD D with
 | some kd=>(match asI a with
   | some p=>(match isU8 kd with
     | true=>Let (toByte p.2) fun n=>k (.b8 n) []
     | false=>Let (kd.wrap p.2) fun n=>k (.i kd n) [])
   | none=>got (asC a) fun c=>tst (wideK kd) (Let (c.toNat:Int) fun n=>k (.i kd n) []))
 | none=>match isStrD D with
   | true=>got (isSlD S) fun E=>got (P.underlying E) fun ED=>got (isIntD ED) fun ke=>tst (isU8 ke) (match isNil a with
     | true=>k (.st []) []
     | false=>got (asSl a) fun p=>got (bytesOf tb p.1 p.2) fun bs=>k (.st bs) [])
   | false=>tst (isStrD S) <| got (isSlD D) fun E=>got (P.underlying E) fun ED=>got (isIntD ED) fun ke=>tst (isU8 ke) (got (asS a) fun st=>got (slB tb st) fun x=>k x [])
theorem qConv_ok {L:SLS tb} {G o s d y} {k:SV tb->List Nat->Option ρ} {r} (ho:o.op=.convert s d y) (h:qConv P L G s d y k=some r):QOk P L G o k r:=by
 unfold qConv at h
 obtain ⟨a,ha,h⟩:=got_e h
 obtain ⟨D,hD,h⟩:=got_e h
 obtain ⟨S,hS,h⟩:=got_e h
 have hy:=fun u=>opd_ok (L:=L) (G:=G) u ha
 have hSs:(P.underlying s).isSome=true:=by rw [hS];rfl
 split at h
 ·rename_i kd hkd
  rw [isIntD_e hkd] at hD
  split at h
  ·rename_i p hp
   rw [asI_e hp] at hy
   split at h
   ·rename_i hu
    rw [isU8_e hu] at hD
    exact ⟨_,[],h,fun u=>QEx.cvKC ho hD hSs (hy u)⟩
   ·exact ⟨_,[],h,fun u=>QEx.convI ho hD hSs (hy u)⟩
  ·obtain ⟨c,hc,h⟩:=got_e h
   obtain ⟨hw,h⟩:=tst_e h
   rw [asC_e hc] at hy
   exact ⟨_,[],h,fun u=>QEx.cvCK ho hD hSs (hy u) (wideK_e hw)⟩
 ·split at h
  ·rename_i hs
   obtain ⟨E,hE,h⟩:=got_e h
   obtain ⟨ED,hED,h⟩:=got_e h
   obtain ⟨ke,hke,h⟩:=got_e h
   obtain ⟨hu,h⟩:=tst_e h
   rw [isStrD_e hs] at hD
   rw [isSlD_e hE] at hS
   rw [isIntD_e hke,isU8_e hu] at hED
   split at h
   ·rename_i hn
    refine ⟨_,[],h,fun u=>?_⟩
    have h1:OpdOk L.E y (.sl true 1 []):=(hy u).sub (by rw [isNil_e hn];exact .nil)
    exact QEx.bytesStr (bs:=[]) ho hS hED hD h1 rfl
   ·obtain ⟨p,hp,h⟩:=got_e h
    obtain ⟨bs,hbs,h⟩:=got_e h
    obtain ⟨c,hc⟩:=asSl_e hp
    obtain ⟨h1,h2⟩:=bytesOf_e hbs
    rw [hc,h1] at hy
    exact ⟨_,[],h,fun u=>QEx.bytesStr ho hS hED hD (hy u) h2⟩
  ·obtain ⟨hs,h⟩:=tst_e h
   obtain ⟨E,hE,h⟩:=got_e h
   obtain ⟨ED,hED,h⟩:=got_e h
   obtain ⟨ke,hke,h⟩:=got_e h
   obtain ⟨hu,h⟩:=tst_e h
   obtain ⟨st,hst,h⟩:=got_e h
   obtain ⟨x,hx,h⟩:=got_e h
   rw [isStrD_e hs] at hS
   rw [isSlD_e hE] at hD
   rw [isIntD_e hke,isU8_e hu] at hED
   rw [asS_e hst] at hy
   refine ⟨_,[],h,fun u=>?_⟩
   rw [slB_e hx]
   exact QEx.strBytes ho hS hD hED (hy u)
/-! lengths -/
def qLen (P:Program) (L:SLS tb) (G:Gd) (y:Operand) (t:Nat) (k:SV tb->List Nat->Option ρ):Option ρ:=
 got (opd L G y) fun a=>got (P.underlying t) fun D=>match isStrD D with
 | true=>got (asS a) fun s=>Let (s.length:Int) fun n=>k (.i .i64 n) []
 | false=>got (isSlD D) fun _=>match isNil a with
   | true=>k (.i .i64 0) []
   | false=>match a with
     | .sl _ _ l=>Let (l.length:Int) fun n=>k (.i .i64 n) []
     | .row _ _ _ len _=>k (.i .i64 len) []
     | _=>none
theorem qLen_ok {L:SLS tb} {G o y t} {k:SV tb->List Nat->Option ρ} {r} (ho:o.op=.call { callee:=.builtin .len,args:=#[y],argTypes:=#[t] }) (h:qLen P L G y t k=some r):QOk P L G o k r:=by
 unfold qLen at h
 obtain ⟨a,ha,h⟩:=got_e h
 obtain ⟨D,hD,h⟩:=got_e h
 have hy:=fun u=>opd_ok (L:=L) (G:=G) u ha
 split at h
 ·rename_i hs
  obtain ⟨s,hs2,h⟩:=got_e h
  rw [isStrD_e hs] at hD
  rw [asS_e hs2] at hy
  exact ⟨_,[],h,fun u=>QEx.lenStr ho hD (hy u)⟩
 ·obtain ⟨E,hE,h⟩:=got_e h
  rw [isSlD_e hE] at hD
  split at h
  ·rename_i hn
   refine ⟨_,[],h,fun u=>?_⟩
   have h1:OpdOk L.E y (.sl true 1 []):=(hy u).sub (by rw [isNil_e hn];exact .nil)
   exact QEx.len ho ⟨_,hD⟩ h1
  ·split at h
   ·refine ⟨_,[],h,fun u=>?_⟩
    have:=QEx.len ho ⟨_,hD⟩ (hy u)
    rw [List.length_map] at this
    exact this
   ·exact ⟨_,[],h,fun u=>QEx.lenR ho hD ((hy u).r (by simp [ho,Op.operands,Call.operands]))⟩
   ·cases h
def qMM (L:SLS tb) (G:Gd) (mx:Bool) (x y:Operand) (k:SV tb->List Nat->Option ρ):Option ρ:=
 got (opd L G x) fun a=>got (opd L G y) fun b=>got (asI a) fun p=>got (asI b) fun q=>tst (decide (p.1=q.1)) (match mx with
 | true=>Let (max p.2 q.2) fun n=>k (.i p.1 n) []
 | false=>Let (min p.2 q.2) fun n=>k (.i p.1 n) [])
/-! picks -/
def gdAt (e:SEnv tb) (t:Nat) (w:Bool):Option Gd:=match find t e with
 | some (.opt G' y)=>(match G' with
   | []=>none
   | _::_=>match boolOf y with | some b=>some ((t,w,b)::G') | none=>none)
 | some y=>(match boolOf y with | some b=>some [(t,w,b)] | none=>none)
 | none=>none
theorem gdAt_e {e:SEnv tb} {t w G} (hi:GInv e) (h:gdAt e t w=some G):∃ b G',G=(t,w,b)::G'/\GD e G:=by
 unfold gdAt at h
 split at h
 ·rename_i G' y hf
  split at h
  ·cases h
  ·rename_i g G'
   split at h
   ·rename_i b hb
    cases h
    exact ⟨b,g::G',rfl,(hi _ _ _ hf).1,y,hb,.inr ⟨hf,by simp⟩⟩
   ·cases h
 ·rename_i y hne hf
  split at h
  ·rename_i b hb
   cases h
   exact ⟨b,[],rfl,trivial,y,hb,.inl ⟨hf,rfl⟩⟩
  ·cases h
 ·cases h
def gdOp (L:SLS tb) (G:Gd) (w:Bool):Operand->Option Gd
 | .tmp t=>gdAt L.e t w
 | _=>some G
def conB:SV tb->Option Bool
 | .con (.bool t)=>some t
 | _=>none
theorem conB_e {x:SV tb} {t} (h:conB x=some t):x.av=bAV t:=by
 unfold conB at h
 split at h
 ·cases h;rfl
 ·cases h
def qPick1 (L:SLS tb) (G:Gd) (c y z:Operand) (k:SV tb->List Nat->Option ρ):Option ρ:=
 got (opd L G c) fun a=>got (boolOf a) fun t=>got (gdOp L G true c) fun G1=>got (gdOp L G false c) fun G2=>
 got (opd L G1 y) fun b=>got (boolOf b) fun s=>got (opd L G2 z) fun d=>got (boolOf d) fun r=>Let (cond t s r) fun t=>k (.bo t) []
theorem gdOp_u {L:SLS tb} {G G1:Gd} {w c a t} (u:Gu L G) (ha:opd L G c=some a) (hb:boolOf a=some t) (h:gdOp L G w c=some G1) (ht:t=w):Gu L G1:=by
 unfold gdOp at h
 split at h
 ·rename_i s
  obtain ⟨b,G',rfl,hg⟩:=gdAt_e u.inv h
  refine ⟨u.inv,hg,?_⟩
  rw [gc_eq]
  simp only [gc0,Bool.and_eq_true,beq_iff_eq]
  obtain ⟨h1,y,hy,h2⟩:=hg
  simp only [opd] at ha
  rcases h2 with ⟨h2,rfl⟩ | ⟨h2,h3⟩
  ·rw [h2] at ha
   have hyo:∀ G x,y≠.opt G x:=by rintro G x rfl;cases hy
   split at ha
   ·rename_i heq;cases heq;exact absurd rfl (hyo _ _)
   ·rename_i heq;cases heq;cases ha
    rw [boolOf_res hy,hy] at hb;cases hb
    exact ⟨rfl,ht⟩
   ·rename_i heq;cases heq
  ·rw [h2] at ha
   simp only at ha
   split at ha
   ·rename_i hs
    cases ha
    rw [boolOf_res hy,hy] at hb;cases hb
    refine ⟨?_,ht⟩
    rw [<- gc_eq]
    exact gSuf_of u.gd h1 hs u.on
   ·cases ha
 ·cases h;exact u
theorem qPick1_ok {L:SLS tb} {G o c y z} {k:SV tb->List Nat->Option ρ} {r} (ho:o.op=.pick c y z) (h:qPick1 L G c y z k=some r):QOk P L G o k r:=by
 unfold qPick1 at h
 obtain ⟨a,ha,h⟩:=got_e h
 obtain ⟨t,ht,h⟩:=got_e h
 obtain ⟨G1,hG1,h⟩:=got_e h
 obtain ⟨G2,hG2,h⟩:=got_e h
 obtain ⟨b,hb,h⟩:=got_e h
 obtain ⟨s,hs,h⟩:=got_e h
 obtain ⟨d,hd,h⟩:=got_e h
 obtain ⟨q,hq,h⟩:=got_e h
 refine ⟨_,[],h,fun u=>QEx.pick ho ?_ ?_ ?_⟩
 ·have:=opd_ok u ha;rwa [boolOf_e ht] at this
 ·intro h1;have:=opd_ok (gdOp_u u ha ht hG1 h1) hb;rwa [boolOf_e hs] at this
 ·intro h1;have:=opd_ok (gdOp_u u ha ht hG2 h1) hd;rwa [boolOf_e hq] at this
def qPickC (L:SLS tb) (t:Bool) (y z:Operand) (k:SV tb->List Nat->Option ρ):Option ρ:=match t with
 | true=>got (opd L [] y) fun b=>got (boolOf b) fun _=>k b []
 | false=>got (opd L [] z) fun b=>got (boolOf b) fun _=>k b []
def qPick (L:SLS tb) (G:Gd) (c y z:Operand) (k:SV tb->List Nat->Option ρ):Option ρ:=match G with
 | []=>(match (opd L [] c).bind conB with
   | some t=>qPickC L t y z k
   | none=>qPick1 L [] c y z k)
 | _::_=>qPick1 L G c y z k
theorem qPick_ok {L:SLS tb} {G o c y z} {k:SV tb->List Nat->Option ρ} {r} (ho:o.op=.pick c y z) (h:qPick L G c y z k=some r):QOk P L G o k r:=by
 unfold qPick at h
 split at h
 ·split at h
  ·rename_i t ht
   obtain ⟨a,ha,hb⟩:=Option.bind_eq_some_iff.1 ht
   have hc:=fun u=>opd_ok (L:=L) (G:=[]) u ha
   rw [conB_e hb] at hc
   unfold qPickC at h
   split at h
   ·obtain ⟨b,hb,h⟩:=got_e h
    obtain ⟨s,hs,h⟩:=got_e h
    refine ⟨_,[],h,fun u=>?_⟩
    have hy:=opd_ok u hb
    rw [boolOf_e hs] at hy
    rw [boolOf_e hs]
    exact QEx.pick (t:=true) (s:=s) (r:=s) ho (hc u) (fun _=>hy) (fun h=>by cases h)
   ·obtain ⟨b,hb,h⟩:=got_e h
    obtain ⟨s,hs,h⟩:=got_e h
    refine ⟨_,[],h,fun u=>?_⟩
    have hy:=opd_ok u hb
    rw [boolOf_e hs] at hy
    rw [boolOf_e hs]
    exact QEx.pick (t:=false) (s:=s) (r:=s) ho (hc u) (fun h=>by cases h) (fun _=>hy)
  ·exact qPick1_ok ho h
 ·exact qPick1_ok ho h
def qMove (L:SLS tb) (G:Gd) (y:Operand) (k:SV tb->List Nat->Option ρ):Option ρ:=got (opd L G y) fun a=>k a []
theorem qMove_ok {L:SLS tb} {G o y} {k:SV tb->List Nat->Option ρ} {r} (ho:o.op=.move y\/o.op=.assign y) (h:qMove L G y k=some r):QOk P L G o k r:=by
 unfold qMove at h
 obtain ⟨a,ha,h⟩:=got_e h
 rcases ho with ho | ho
 ·exact ⟨_,[],h,fun u=>QEx.move ho (opd_ok u ha)⟩
 ·exact ⟨_,[],h,fun u=>QEx.assign ho (opd_ok u ha)⟩
theorem avL_get {l:List (SV tb)} {i:Nat} {x} (h:l[i]? = some x):(avL l)[i]? = some x.av:=by
 rw [avL_map,List.getElem?_map,h];rfl
def nth {α:Type}:List α->Nat->Option α
 | [],_=>none
 | x::_,0=>some x
 | _::l,n+1=>nth l n
theorem nth_e {α:Type}:∀ (l:List α) (n:Nat),nth l n=l[n]?
 | [],_=>by simp [nth]
 | x::_,0=>rfl
 | _::l,n+1=>by simpa [nth] using nth_e l n
def qExt (L:SLS tb) (G:Gd) (y:Operand) (i:Nat) (k:SV tb->List Nat->Option ρ):Option ρ:=got (opd L G y) fun a=>match a with
 | .tup l=>got (nth l i) fun x=>k x []
 | _=>none
theorem qExt_ok {L:SLS tb} {G o y i} {k:SV tb->List Nat->Option ρ} {r} (ho:o.op=.extract y i) (h:qExt L G y i k=some r):QOk P L G o k r:=by
 unfold qExt at h
 obtain ⟨a,ha,h⟩:=got_e h
 split at h
 ·obtain ⟨x,hx,h⟩:=got_e h
  rw [nth_e] at hx
  exact ⟨_,[],h,fun u=>QEx.extract ho (opd_ok u ha) (avL_get hx)⟩
 ·cases h
end
end
section
open Go.RowKit
variable [GlC]
section
variable {P:Program} {tb:Tb} {ρ:Type}
theorem avL_length:∀ l:List (SV tb),(avL l).length=l.length
 | []=>rfl
 | x::l=>by simp only [avL,List.length_cons,avL_length l]
theorem avL_drop:∀ (l:List (SV tb)) n,avL (l.drop n)=(avL l).drop n:=fun l n=>by rw [avL_map,avL_map,List.map_drop]
theorem avL_take:∀ (l:List (SV tb)) n,avL (l.take n)=(avL l).take n:=fun l n=>by rw [avL_map,avL_map,List.map_take]
def ixd {α:Type} (d:α) (l:List α) (i:Int):α:=@ix α ⟨d⟩ l i
theorem ixd_get {α:Type} {d:α} {l:List α} {i:Int} (h:0<=i/\i<l.length):l[i.toNat]? = some (ixd d l i):=by
 have hlt:i.toNat<l.length:=by omega
 simp [ixd,ix,List.getD,List.getElem?_eq_getElem hlt]
variable {cx:Ctx P tb}
theorem elC_len (ok:∀ i,CdOk (cx.cd i)) {E:tb.Ix} {l:List (tb.T E)}:∀ x∈l.map (tb.el E),x.cells.length=tb.sz E:=by
 intro x hx
 obtain ⟨y,-,rfl⟩:=List.mem_map.1 hx
 exact (ok E).len y
theorem elC_length (cx:Ctx P tb) {E:tb.Ix} {l:List (tb.T E)}:(elC tb E l).length=l.length*tb.sz E:=by
 unfold elC;rw [flat_len (elC_len cx.ok),List.length_map]
theorem elC_at (cx:Ctx P tb) {E:tb.Ix} {l:List (tb.T E)} {i:Int} (h:0<=i/\i<l.length):((elC tb E l).drop (i.toNat*tb.sz E)).take (tb.sz E)=avL ((cx.cd E).cs (ixd (cx.cd E).inh l i)):=by
 unfold elC
 rw [flat_at (elC_len cx.ok) (e:=tb.el E (ixd (cx.cd E).inh l i)) (by rw [List.getElem?_map,ixd_get h];rfl),(cx.ok E).cs]
theorem elC_sub (cx:Ctx P tb) {E:tb.Ix} {l:List (tb.T E)} {i:Int} {fo sz:Nat} (h:0<=i/\i<l.length) (hf:fo+sz<=tb.sz E):
 ((elC tb E l).drop (i.toNat*tb.sz E+fo)).take sz=avL ((((cx.cd E).cs (ixd (cx.cd E).inh l i)).drop fo).take sz):=by
 rw [avL_take,avL_drop,<- elC_at cx h,List.drop_take,List.drop_drop,List.take_take,Nat.min_eq_left (by omega)]
theorem cs_length (cx:Ctx P tb) {E:tb.Ix} {x:tb.T E}:((cx.cd E).cs x).length=tb.sz E:=by
 rw [<- avL_length,(cx.ok E).cs,(cx.ok E).len]
def intsK (K:IntKind):List (SV tb)->List Int
 | []=>[]
 | x::r=>match x with
   | .i k n=>(match decide (k=K) with | true=>n::intsK K r | false=>[])
   | .con (.int k n)=>(match decide (k=K) with | true=>n::intsK K r | false=>[])
   | _=>[]
def kindAt:List (SV tb)->Option IntKind
 | []=>none
 | x::_=>match x with
   | .i k _=>some k
   | .con (.int k _)=>some k
   | _=>none
theorem intsK_get {K:IntKind}:∀ {l:List (SV tb)} {i:Nat},i<(intsK K l).length->∃ x,l[i]? = some x/\x.av=.v (.int K ((intsK K l).getD i 0))
 | [],i,h=>by simp [intsK] at h
 | x :: r,i,h=>by
   have step:∀ n,intsK K (x::r)=n::intsK K r->x.av=.v (.int K n)->∃ y,(x::r)[i]? = some y/\y.av=.v (.int K ((intsK K (x::r)).getD i 0)):=by
    intro n h1 h2
    cases i with
    | zero=>exact ⟨x,rfl,by rw [h1,h2];rfl⟩
    | succ i=>
      rw [h1,List.length_cons] at h
      obtain ⟨y,h3,h4⟩:=intsK_get (K:=K) (l:=r) (i:=i) (by omega)
      exact ⟨y,by simpa using h3,by rw [h4,h1];rfl⟩
   have none_:intsK K (x::r)=[]->∃ y,(x::r)[i]? = some y/\y.av=.v (.int K ((intsK K (x::r)).getD i 0)):=by
    intro h1;rw [h1] at h;simp at h
   cases x with
   | i k n=>
     by_cases hk:k=K
     ·subst hk;exact step n (by simp [intsK]) rfl
     ·exact none_ (by simp [intsK,hk])
   | con v=>
     cases v with
     | int k n=>
       by_cases hk:k=K
       ·subst hk;exact step n (by simp [intsK]) rfl
       ·exact none_ (by simp [intsK,hk])
     | _=>exact none_ rfl
   | _=>exact none_ rfl
def strsS:List (SV tb)->List (List UInt8)
 | []=>[]
 | x::r=>match asS x with
   | some s=>s::strsS r
   | none=>[]
theorem strsS_get:∀ {l:List (SV tb)} {i:Nat},i<(strsS l).length->∃ x,l[i]? = some x/\x.av=sAV ((strsS l).getD i [])
 | [],i,h=>by simp [strsS] at h
 | x :: r,i,h=>by
   unfold strsS at h ⊢
   split at h
   ·rename_i s hs
    cases i with
    | zero=>exact ⟨x,rfl,asS_e hs⟩
    | succ i=>
      obtain ⟨y,h3,h4⟩:=strsS_get (l:=r) (i:=i) (by simpa using h)
      exact ⟨y,by simpa using h3,by rw [h4];rfl⟩
   ·simp at h
def allOne:List (SV tb)->Bool
 | []=>true
 | x::l=>match x with
   | .agg _=>false
   | .opt _ _=>false
   | .tup _=>false
   | .con v=>(match oneCell v with | true=>allOne l | false=>false)
   | _=>allOne l
theorem allOne_flat:∀ {l:List (SV tb)},allOne l=true->(avL l).flatMap AV.cells=avL l/\∀ x∈avL l,x.cells.length=1
 | [],_=>⟨rfl,by simp [avL]⟩
 | x :: l,h=>by
   have key:allOne l=true->x.av.cells=[x.av]->(avL (x::l)).flatMap AV.cells=avL (x::l)/\∀ y∈avL (x::l),y.cells.length=1:=by
    intro h1 h2
    obtain ⟨g1,g2⟩:=allOne_flat h1
    refine ⟨?_,?_⟩
    ·simp only [avL,List.flatMap_cons]
     rw [g1,h2];rfl
    ·intro y hy
     simp only [avL,List.mem_cons] at hy
     rcases hy with rfl | hy
     ·rw [h2];rfl
     ·exact g2 y hy
   cases x with
   | agg _=>cases h
   | opt _ _=>cases h
   | tup _=>cases h
   | con v=>
     unfold allOne at h
     simp only at h
     split at h
     ·rename_i hv;exact key h rfl
     ·cases h
   | _=>exact key h rfl
def qLoad (cx:Ctx P tb) (L:SLS tb) (G:Gd) (t:Nat) (y:Operand) (k:SV tb->List Nat->Option ρ):Option ρ:=
 got (opd L G y) fun a=>got (tAg P t) fun ag=>match a with
 | .cp l=>(match ag with
   | true=>got (tSz P t) fun n=>tst (Nat.beq n l.length) (k (.agg l) [])
   | false=>match l with | [x]=>k x [] | _=>none)
 | .ptr id off=>got (cellsAt L id) fun l=>(match ag with
   | true=>got (tSz P t) fun n=>tst (Nat.ble (off+n) l.length) (k (.agg ((l.drop off).take n)) [id])
   | false=>got (nth l off) fun x=>k x [id])
 | .epr id E i fo=>(match arrAt L id E with
   | some l=>chk G (0<=i/\i<l.length) (Let (ixd (cx.cd E).inh l i) fun x=>match ag with
     | true=>got (tSz P t) fun n=>tst (Nat.ble (fo+n) (tb.sz E)) (k (.agg ((((cx.cd E).cs x).drop fo).take n)) [id])
     | false=>got (nth ((cx.cd E).cs x) fo) fun y=>k y [id])
   | none=>tst (!ag) <| tst (Nat.beq (tb.sz E) 1) <| got (cellsAt L id) fun l=>got (kindAt (l.drop fo)) fun K=>chk G (0<=i/\i<(intsK K (l.drop fo)).length) (Let (ixd 0 (intsK K (l.drop fo)) i) fun x=>k (.i K x) [id]))
 | _=>none
theorem qLoad_ok {L:SLS tb} {G o t y} {k:SV tb->List Nat->Option ρ} {r} (ho:o.op=.load t y) (h:qLoad cx L G t y k=some r):QOk P L G o k r:=by
 unfold qLoad at h
 obtain ⟨a,ha,h⟩:=got_e h
 obtain ⟨ag,hag,h⟩:=got_e h
 have hy:=fun u=>opd_ok (L:=L) (G:=G) u ha
 split at h
 ·split at h
  ·obtain ⟨n,hn,h⟩:=got_e h
   obtain ⟨h1,h⟩:=tst_e h
   exact ⟨_,[],h,fun u=>QEx.loadAgg ho hag (by rw [hn,Nat.eq_of_beq_eq_true h1,avL_length]) (hy u)⟩
  ·split at h
   ·exact ⟨_,[],h,fun u=>QEx.load1 ho hag (hy u)⟩
   ·cases h
 ·obtain ⟨l,hl,h⟩:=got_e h
  have hl:=cellsAt_e hl
  split at h
  ·obtain ⟨n,hn,h⟩:=got_e h
   obtain ⟨h1,h⟩:=tst_e h
   refine ⟨_,_,h,fun u=>?_⟩
   rw [needAV_one hl]
   have:=QEx.loadP (l:=avL l) ho hag hn (hy u) (by rw [avL_length];exact Nat.le_of_ble_eq_true h1)
   simp only [SV.av]
   rw [avL_take,avL_drop];exact this
  ·obtain ⟨x,hx,h⟩:=got_e h
   rw [nth_e] at hx
   refine ⟨_,_,h,fun u=>?_⟩
   rw [needAV_one hl]
   exact QEx.loadP1 ho hag (hy u) (avL_get hx)
 ·rename_i id E i fo _
  split at h
  ·rename_i l hl
   have hl:=arrAt_e hl
   obtain ⟨hc,h⟩:=chk_e h
   change (match ag with | true=>_ | false=>_)=_ at h
   split at h
   ·obtain ⟨n,hn,h⟩:=got_e h
    obtain ⟨h1,h⟩:=tst_e h
    have h1:=Nat.le_of_ble_eq_true h1
    refine ⟨_,_,h,fun u=>?_⟩
    rw [needAV_one hl]
    have hc:=hc u.on
    have hlt:i.toNat+1<=l.length:=by omega
    have:=QEx.loadP (l:=elC tb E l) ho hag hn (hy u) (by
     rw [elC_length cx]
     have:=Nat.mul_le_mul_right (tb.sz E) hlt
     rw [Nat.add_mul] at this;omega)
    rw [elC_sub cx hc h1] at this
    exact this
   ·obtain ⟨x,hx,h⟩:=got_e h
    rw [nth_e] at hx
    refine ⟨_,_,h,fun u=>?_⟩
    rw [needAV_one hl]
    have hc:=hc u.on
    have hlt:fo<tb.sz E:=by
     have:fo<((cx.cd E).cs (ixd (cx.cd E).inh l i)).length:=by
      rcases Nat.lt_or_ge fo ((cx.cd E).cs (ixd (cx.cd E).inh l i)).length with h | h
      ·exact h
      ·rw [List.getElem?_eq_none h] at hx;cases hx
     rwa [cs_length cx] at this
    refine QEx.loadP1 (l:=elC tb E l) ho hag (hy u) ?_
    have h2:=congrArg (fun z:List AV=>z[0]?) (elC_sub cx (l:=l) (fo:=fo) (sz:=1) hc hlt)
    have h3:(avL ((((cx.cd E).cs (ixd (cx.cd E).inh l i)).drop fo).take 1))[0]? = some x.av:=avL_get (by rw [List.getElem?_take_of_lt (by omega),List.getElem?_drop];simpa using hx)
    rw [h3,List.getElem?_take_of_lt (by omega),List.getElem?_drop,Nat.add_zero] at h2
    exact h2
  ·obtain ⟨h1,h⟩:=tst_e h
   obtain ⟨h2,h⟩:=tst_e h
   obtain ⟨l,hl,h⟩:=got_e h
   obtain ⟨K,hK,h⟩:=got_e h
   obtain ⟨hc,h⟩:=chk_e h
   have h:=(show k (.i K (ixd 0 (intsK K (l.drop fo)) i)) [id]=some r from h)
   have hl:=cellsAt_e hl
   refine ⟨_,_,h,fun u=>?_⟩
   rw [needAV_one hl]
   have hc:=hc u.on
   have hag':ag=false:=by simpa using h1
   rw [hag'] at hag
   obtain ⟨x,hx,hxa⟩:=intsK_get (K:=K) (l:=l.drop fo) (i:=i.toNat) (by omega)
   have hx':l[i.toNat*tb.sz E+fo]? = some x:=by
    rw [List.getElem?_drop] at hx
    rw [Nat.eq_of_beq_eq_true h2,Nat.mul_one,Nat.add_comm];exact hx
   have:=QEx.loadP1 ho hag (hy u) (avL_get hx')
   rw [hxa] at this
   exact this
 ·cases h
def isStD:TypeDesc->Option (Array Field)
 | .struct fs=>some fs
 | _=>none
theorem isStD_e {d E} (h:isStD d=some E):d=.struct E:=by unfold isStD at h;split at h;cases h;rfl;cases h
def isArD:TypeDesc->Option (Nat × Nat)
 | .array n E=>some (n,E)
 | _=>none
theorem isArD_e {d p} (h:isArD d=some p):d=.array p.1 p.2:=by unfold isArD at h;split at h;cases h;rfl;cases h
def fieldAt (P:Program) (t f:Nat):Option (Field × Nat):=got (P.underlying t) fun D=>got (isStD D) fun fs=>got (fs[f]?) fun fd=>got (tSz P fd.type) fun n=>tst (Nat.ble 1 n) (some (fd,n))
theorem fieldAt_e {t f p} (h:fieldAt P t f=some p):∃ fs,P.underlying t=some (.struct fs)/\fs[f]? = some p.1/\tSz P p.1.type=some p.2/\0<p.2:=by
 unfold fieldAt at h
 obtain ⟨D,hD,h⟩:=got_e h
 obtain ⟨fs,hfs,h⟩:=got_e h
 obtain ⟨fd,hfd,h⟩:=got_e h
 obtain ⟨n,hn,h⟩:=got_e h
 obtain ⟨h1,h⟩:=tst_e h
 cases h
 rw [isStD_e hfs] at hD
 exact ⟨fs,hD,hfd,hn,Nat.le_of_ble_eq_true h1⟩
def qFieldA (P:Program) (L:SLS tb) (G:Gd) (t:Nat) (y:Operand) (f:Nat) (k:SV tb->List Nat->Option ρ):Option ρ:=
 got (opd L G y) fun a=>got (fieldAt P t f) fun p=>match a with
 | .cp l=>k (.cp ((l.drop p.1.offset).take p.2)) []
 | .ptr id off=>k (.ptr id (off+p.1.offset)) []
 | .epr id E i fo=>k (.epr id E i (fo+p.1.offset)) []
 | _=>none
theorem qFieldA_ok {L:SLS tb} {G o t y f} {k:SV tb->List Nat->Option ρ} {r} (ho:o.op=.fieldAddr t y f) (h:qFieldA P L G t y f k=some r):QOk P L G o k r:=by
 unfold qFieldA at h
 obtain ⟨a,ha,h⟩:=got_e h
 obtain ⟨p,hp,h⟩:=got_e h
 obtain ⟨fs,h1,h2,h3,h4⟩:=fieldAt_e hp
 have hy:=fun u=>opd_ok (L:=L) (G:=G) u ha
 split at h
 ·refine ⟨_,[],h,fun u=>?_⟩
  have:=QEx.fieldC ho h1 h2 h3 h4 (hy u)
  simp only [SV.av];rw [avL_take,avL_drop];exact this
 ·exact ⟨_,[],h,fun u=>QEx.fieldP ho h1 h2 h3 h4 (hy u)⟩
 ·refine ⟨_,[],h,fun u=>?_⟩
  have:=QEx.fieldP ho h1 h2 h3 h4 (hy u)
  simp only [SV.av] at this ⊢
  rw [Nat.add_assoc] at this;exact this
 ·cases h
def elemT (P:Program) (t sz:Nat):Option (Nat × Nat):=got (P.underlying t) fun D=>got (isSlD D) fun E=>got (P.info? E) fun i=>got i.zero fun z=>
 tst (Nat.beq i.size sz) <| tst (Nat.beq z.cells.size sz) <| tst (z.cells.toList.all oneCell) <| tst (Nat.ble 1 sz) (some (E,i.bytes))
theorem elemT_e {t sz p} (h:elemT P t sz=some p):ElemT P t p.1 sz p.2:=by
 unfold elemT at h
 obtain ⟨D,hD,h⟩:=got_e h
 obtain ⟨E,hE,h⟩:=got_e h
 obtain ⟨i,hi,h⟩:=got_e h
 obtain ⟨z,hz,h⟩:=got_e h
 obtain ⟨h1,h⟩:=tst_e h
 obtain ⟨h2,h⟩:=tst_e h
 obtain ⟨h3,h⟩:=tst_e h
 obtain ⟨h4,h⟩:=tst_e h
 cases h
 rw [isSlD_e hE] at hD
 exact ⟨hD,⟨i,z,hi,hz,Nat.eq_of_beq_eq_true h1,rfl,Nat.eq_of_beq_eq_true h2,h3⟩,Nat.le_of_ble_eq_true h4⟩
def isArr:Option (SC tb)->Bool
 | some (.arr _ _)=>true
 | _=>false
def qIxA (cx:Ctx P tb) (L:SLS tb) (G:Gd) (t:Nat) (y z:Operand) (k:SV tb->List Nat->Option ρ):Option ρ:=
 got (opd L G y) fun a=>got (opd L G z) fun b=>got (asI b) fun q=>got (P.underlying t) fun D=>match isSlD D with
 | some E'=>got (tSz P E') fun n=>(match a with
   | .sl _ E l=>tst (Nat.beq n (tb.sz E)) <| chk G (0<=q.2/\q.2<l.length) (Let (ixd (cx.cd E).inh l q.2) fun x=>k (.cp ((cx.cd E).cs x)) [])
   | .row id E off len _=>tst (Nat.beq n (tb.sz E)) <| chk G (0<=q.2/\q.2<len) (k (.epr id E ((off:Int)+q.2) 0) [])
   | .rw id E=>(match arrAt L id E with
     | some l=>tst (Nat.beq n (tb.sz E)) <| chk G (0<=q.2/\q.2<l.length) (k (.epr id E q.2 0) [id])
     | none=>match b with
       | .con _=>got (cellsAt L id) fun l=>tst (Nat.beq n (tb.sz E)) <| tst (Nat.beq n 1) <| tst (allOne l) <| tst (decide (0<=q.2/\q.2<l.length)) (k (.ptr id q.2.toNat) [id])
       | _=>none)
   | _=>none)
 | none=>got (isArD D) fun p=>got (tSz P p.2) fun n=>(match a with
   | .ptr id off=>(match b,isArr (find id L.h) with
     | .con _,false=>tst (decide (0<=q.2/\q.2<p.1)) (k (.ptr id (off+q.2.toNat*n)) [])
     | _,_=>match find id L.h with
       | some (.arr E _)=>tst (Nat.beq n (tb.sz E)) <| tst (Nat.beq off 0) <| chk G (0<=q.2/\q.2<p.1) (k (.epr id E q.2 0) [])
       | some (.cells _)=>got (tb.look p.2) fun E=>tst (Nat.beq n (tb.sz E)) <| chk G (0<=q.2/\q.2<p.1) (k (.epr id E q.2 off) [])
       | _=>none)
   | .cp l=>(match b with
     | .con _=>tst (decide (0<=q.2/\q.2<p.1)) (k (.cp ((l.drop (q.2.toNat*n)).take n)) [])
     | _=>got (kindAt l) fun K=>tst (Nat.beq n 1) <| tst (Nat.ble p.1 (intsK K l).length) <| chk G (0<=q.2/\q.2<p.1) (Let (ixd 0 (intsK K l) q.2) fun x=>k (.cp [.i K x]) []))
   | _=>none)
theorem qIxA_ok {L:SLS tb} {G o t y z} {k:SV tb->List Nat->Option ρ} {r} (ho:o.op=.indexAddr t y z) (h:qIxA cx L G t y z k=some r):QOk P L G o k r:=by
 unfold qIxA at h
 obtain ⟨a,ha,h⟩:=got_e h
 obtain ⟨b,hb,h⟩:=got_e h
 obtain ⟨q,hq,h⟩:=got_e h
 obtain ⟨D,hD,h⟩:=got_e h
 have hy:=fun u=>opd_ok (L:=L) (G:=G) u ha
 have hz:=fun u=>opd_ok (L:=L) (G:=G) u hb
 rw [asI_e hq] at hz
 split at h
 ·rename_i E' hE
  rw [isSlD_e hE] at hD
  obtain ⟨n,hn,h⟩:=got_e h
  split at h
  ·rename_i c E l _ _ _ _
   obtain ⟨h1,h⟩:=tst_e h
   rw [Nat.eq_of_beq_eq_true h1] at hn
   obtain ⟨hc,h⟩:=chk_e h
   refine ⟨_,[],h,fun u=>?_⟩
   have hc:=hc u.on
   have:=QEx.indexAddr (x:=tb.el E (ixd (cx.cd E).inh l q.2)) ho hD hn (cx.ok E).pos (hy u) (hz u) hc.1 (by rw [List.getElem?_map,ixd_get hc];rfl)
   simp only [SV.av];rw [(cx.ok E).cs];exact this
  ·rename_i id E off len mc _ _ _ _
   obtain ⟨h1,h⟩:=tst_e h
   rw [Nat.eq_of_beq_eq_true h1] at hn
   obtain ⟨hc,h⟩:=chk_e h
   refine ⟨_,[],h,fun u=>?_⟩
   have hc:=hc u.on
   have:=QEx.indexR (need:=[]) ho hD hn ((hy u).r (by simp [ho,Op.operands])) (hz u) hc.1 hc.2
   simp only [SV.av]
   rw [show ((off:Int)+q.2).toNat*tb.sz E+0=off*tb.sz E+q.2.toNat*tb.sz E by rw [<- Nat.add_mul,Nat.add_zero];congr 1;omega]
   exact this
  ·rename_i id E _ _ _ _
   split at h
   ·rename_i l hl
    have hl:=arrAt_e hl
    obtain ⟨h1,h⟩:=tst_e h
    rw [Nat.eq_of_beq_eq_true h1] at hn
    obtain ⟨hc,h⟩:=chk_e h
    refine ⟨_,_,h,fun u=>?_⟩
    have hc:=hc u.on
    rw [needAV_one hl]
    have:=QEx.indexR ho hD hn (ROk.rw (xs:=l.map (tb.el E)) (hy u) (by simp [ho,Op.operands]) (show _∈[(id,elC tb E l)] from List.mem_singleton.2 rfl) (elC_len cx.ok) (cx.ok E).pos) (hz u) hc.1 (by rw [List.length_map];exact hc.2)
    rw [Nat.zero_add] at this
    exact this
   ·split at h
    ·obtain ⟨l,hl,h⟩:=got_e h
     have hl:=cellsAt_e hl
     obtain ⟨h1,h⟩:=tst_e h
     obtain ⟨h2,h⟩:=tst_e h
     obtain ⟨h3,h⟩:=tst_e h
     obtain ⟨h4,h⟩:=tst_e h
     have h1:=Nat.eq_of_beq_eq_true h1
     have h2:=Nat.eq_of_beq_eq_true h2
     have h4:=of_decide_eq_true h4
     obtain ⟨g1,g2⟩:=allOne_flat h3
     refine ⟨_,_,h,fun u=>?_⟩
     rw [needAV_one hl]
     have hyu:=hy u
     simp only [SV.av] at hyu
     rw [<- h1,h2] at hyu
     rw [h2] at hn
     have:=QEx.indexR ho hD hn (ROk.rw (xs:=avL l) hyu (by simp [ho,Op.operands]) (show _∈[(id,avL l)] from by rw [g1];exact List.mem_singleton.2 rfl) g2 (by decide)) (hz u) h4.1 (by rw [avL_length];exact h4.2)
     rw [Nat.zero_add,Nat.mul_one] at this
     exact this
    ·cases h
  ·cases h
 ·obtain ⟨p,hp,h⟩:=got_e h
  rw [isArD_e hp] at hD
  obtain ⟨n,hn,h⟩:=got_e h
  split at h
  ·rename_i id off _ _ _ _
   split at h
   ·obtain ⟨h1,h⟩:=tst_e h
    have h1:=of_decide_eq_true h1
    exact ⟨_,[],h,fun u=>QEx.indexP ho hD hn (hy u) (hz u) h1.1 h1.2⟩
   ·split at h
    ·rename_i E l hf
     obtain ⟨h1,h⟩:=tst_e h
     obtain ⟨h2,h⟩:=tst_e h
     obtain ⟨hc,h⟩:=chk_e h
     refine ⟨_,[],h,fun u=>?_⟩
     have hc:=hc u.on
     have:=QEx.indexP ho hD hn (hy u) (hz u) hc.1 hc.2
     rw [Nat.eq_of_beq_eq_true h2,Nat.eq_of_beq_eq_true h1,Nat.zero_add] at this
     exact this
    ·obtain ⟨E,hE,h⟩:=got_e h
     obtain ⟨h1,h⟩:=tst_e h
     obtain ⟨hc,h⟩:=chk_e h
     refine ⟨_,[],h,fun u=>?_⟩
     have hc:=hc u.on
     have:=QEx.indexP ho hD hn (hy u) (hz u) hc.1 hc.2
     rw [Nat.eq_of_beq_eq_true h1,Nat.add_comm] at this
     exact this
    ·cases h
  ·rename_i l _ _ _ _ _
   split at h
   ·obtain ⟨h1,h⟩:=tst_e h
    have h1:=of_decide_eq_true h1
    refine ⟨_,[],h,fun u=>?_⟩
    have:=QEx.indexC ho hD hn (hy u) (hz u) h1.1 h1.2
    simp only [SV.av];rw [avL_take,avL_drop];exact this
   ·obtain ⟨K,hK,h⟩:=got_e h
    obtain ⟨h1,h⟩:=tst_e h
    obtain ⟨h2,h⟩:=tst_e h
    obtain ⟨hc,h⟩:=chk_e h
    have h:=(show k (.cp [.i K (ixd 0 (intsK K l) q.2)]) []=some r from h)
    refine ⟨_,[],h,fun u=>?_⟩
    have hc:=hc u.on
    have h2:=Nat.le_of_ble_eq_true h2
    have:=QEx.indexC ho hD hn (hy u) (hz u) hc.1 hc.2
    obtain ⟨x,hx,hxa⟩:=intsK_get (K:=K) (l:=l) (i:=q.2.toNat) (by omega)
    rw [Nat.eq_of_beq_eq_true h1,Nat.mul_one] at this
    have e1:((avL l).drop q.2.toNat).take 1=[x.av]:=by
     have hlt:q.2.toNat<(avL l).length:=by
      rw [avL_length]
      rcases Nat.lt_or_ge q.2.toNat l.length with h | h
      ·exact h
      ·rw [List.getElem?_eq_none h] at hx;cases hx
     have:=avL_get hx
     rw [List.getElem?_eq_getElem hlt] at this
     rw [List.drop_eq_getElem_cons hlt]
     simp only [List.take_succ_cons,List.take_zero]
     rw [Option.some.inj this]
    rw [e1,hxa] at this
    exact this
  ·cases h
end
end
section
open Go.RowKit
variable [GlC]
section
variable {P:Program} {tb:Tb} {ρ:Type} {cx:Ctx P tb}
def lenS (l:List (SV tb)):Nat:=l.length
theorem mem1 {α:Type} {a:α}:a∈[a]:=List.mem_singleton.2 rfl
def qLen2 (cx:Ctx P tb) (L:SLS tb) (G:Gd) (y:Operand) (t:Nat) (k:SV tb->List Nat->Option ρ):Option ρ:=
 got (opd L G y) fun a=>match a with
 | .rw id E=>got (P.underlying t) fun D=>got (isSlD D) fun _=>(match arrAt L id E with
   | some l=>Let (l.length:Int) fun n=>k (.i .i64 n) [id]
   | none=>got (cellsAt L id) fun l=>tst (Nat.beq (tb.sz E) 1) <| tst (allOne l) <| k (.con (.int .i64 (lenS l))) [id])
 | _=>qLen P L G y t k
theorem qLen2_ok {L:SLS tb} {G o y t} {k:SV tb->List Nat->Option ρ} {r} (ho:o.op=.call { callee:=.builtin .len,args:=#[y],argTypes:=#[t] }) (h:qLen2 cx L G y t k=some r):QOk P L G o k r:=by
 unfold qLen2 at h
 obtain ⟨a,ha,h2⟩:=got_e h
 have hy:=fun u=>opd_ok (L:=L) (G:=G) u ha
 clear h
 cases a with
 | rw id E=>
   obtain ⟨D,hD,h⟩:=got_e h2;clear h2
   obtain ⟨E',hE,h⟩:=got_e h
   rw [isSlD_e hE] at hD
   split at h
   ·rename_i l hl
    have hl:=arrAt_e hl
    refine ⟨_,_,h,fun u=>?_⟩
    rw [needAV_one hl]
    have:=QEx.lenR ho hD (ROk.rw (xs:=l.map (tb.el E)) (hy u) (by simp [ho,Op.operands,Call.operands]) (show _∈[(id,elC tb E l)] from mem1) (elC_len cx.ok) (cx.ok E).pos)
    rw [List.length_map] at this
    exact this
   ·obtain ⟨l,hl,h⟩:=got_e h
    have hl:=cellsAt_e hl
    obtain ⟨h1,h⟩:=tst_e h
    obtain ⟨h2,h⟩:=tst_e h
    obtain ⟨g1,g2⟩:=allOne_flat h2
    refine ⟨_,_,h,fun u=>?_⟩
    rw [needAV_one hl]
    have hyu:=hy u
    simp only [SV.av] at hyu
    rw [Nat.eq_of_beq_eq_true h1] at hyu
    have:=QEx.lenR ho hD (ROk.rw (xs:=avL l) hyu (by simp [ho,Op.operands,Call.operands]) (show _∈[(id,avL l)] from by rw [g1];exact mem1) g2 (by decide))
    rw [avL_length] at this
    exact this
 | _=>exact qLen_ok ho h2
theorem qMM_ok {L:SLS tb} {G o b x y ts} {k:SV tb->List Nat->Option ρ} {r} (ho:(b=true/\o.op=.call { callee:=.builtin .max,args:=#[x,y],argTypes:=ts })\/(b=false/\o.op=.call { callee:=.builtin .min,args:=#[x,y],argTypes:=ts }))
 (h:qMM L G b x y k=some r):QOk P L G o k r:=by
 unfold qMM at h
 obtain ⟨a,ha,h⟩:=got_e h
 obtain ⟨b,hb,h⟩:=got_e h
 obtain ⟨p,hp,h⟩:=got_e h
 obtain ⟨q,hq,h⟩:=got_e h
 obtain ⟨h1,h⟩:=tst_e h
 have hx:=fun u=>opd_ok (L:=L) (G:=G) u ha
 have hy:=fun u=>opd_ok (L:=L) (G:=G) u hb
 rw [asI_e hp] at hx
 rw [asI_e hq,<- of_decide_eq_true h1] at hy
 rcases ho with ⟨rfl,ho⟩ | ⟨rfl,ho⟩
 ·exact ⟨_,[],h,fun u=>QEx.max2 ho (hx u) (hy u)⟩
 ·exact ⟨_,[],h,fun u=>QEx.min2 ho (hx u) (hy u)⟩
/-! parts -/
def sub {α:Type} (l:List α) (a b:Int):List α:=(l.drop a.toNat).take (b.toNat - a.toNat)
def qIx (cx:Ctx P tb) (L:SLS tb) (G:Gd) (t:Nat) (y z:Operand) (k:SV tb->List Nat->Option ρ):Option ρ:=
 got (opd L G y) fun a=>got (opd L G z) fun b=>got (asI b) fun q=>got (P.underlying t) fun D=>match isStrD D with
 | true=>got (asS a) fun s=>chk G (0<=q.2/\q.2<s.length) (Let (ix s q.2) fun c=>k (.b8 c) [])
 | false=>got (isArD D) fun p=>got (tSz P p.2) fun n=>got (tAg P p.2) fun ag=>tst (!ag) (match a,b with
   | .agg l,.con _=>tst (decide (0<=q.2/\q.2<p.1)) (got (nth l (q.2.toNat*n)) fun x=>k x [])
   | .agg l,_=>(match Nat.ble p.1 (strsS l).length with
     | true=>tst (Nat.beq n 1) <| chk G (0<=q.2/\q.2<p.1) (Let (ixd [] (strsS l) q.2) fun x=>k (.st x) [])
     | false=>got (kindAt l) fun K=>tst (Nat.beq n 1) <| tst (Nat.ble p.1 (intsK K l).length) <| chk G (0<=q.2/\q.2<p.1) (Let (ixd 0 (intsK K l) q.2) fun x=>k (.i K x) []))
   | _,_=>none)
theorem qIx_ok {L:SLS tb} {G o t y z} {k:SV tb->List Nat->Option ρ} {r} (ho:o.op=.index t y z) (h:qIx cx L G t y z k=some r):QOk P L G o k r:=by
 unfold qIx at h
 obtain ⟨a,ha,h⟩:=got_e h
 obtain ⟨b,hb,h⟩:=got_e h
 obtain ⟨q,hq,h⟩:=got_e h
 obtain ⟨D,hD,h⟩:=got_e h
 have hy:=fun u=>opd_ok (L:=L) (G:=G) u ha
 have hz:=fun u=>opd_ok (L:=L) (G:=G) u hb
 rw [asI_e hq] at hz
 split at h
 ·rename_i hs
  rw [isStrD_e hs] at hD
  obtain ⟨s,hs2,h⟩:=got_e h
  obtain ⟨hc,h⟩:=chk_e h
  rw [asS_e hs2] at hy
  exact ⟨_,[],h,fun u=>QEx.idxS ho hD (hy u) (hz u) (hc u.on)⟩
 ·obtain ⟨p,hp,h⟩:=got_e h
  obtain ⟨n,hn,h⟩:=got_e h
  obtain ⟨ag,hag,h⟩:=got_e h
  obtain ⟨h1,h5⟩:=tst_e h
  rw [isArD_e hp] at hD
  have:ag=false:=by cases ag <;> simp_all
  rw [this] at hag
  clear h
  split at h5
  ·obtain ⟨h2,h3⟩:=tst_e h5
   obtain ⟨x,hx,h4⟩:=got_e h3
   rw [nth_e] at hx
   exact ⟨_,[],h4,fun u=>QEx.idxA ho hD hn hag (hy u) (hz u) (of_decide_eq_true h2) (avL_get hx)⟩
  ·rename_i l _ _ _ _ _ _
   split at h5
   ·rename_i hb
    obtain ⟨h1,h⟩:=tst_e h5
    obtain ⟨hc,h⟩:=chk_e h
    have h:=(show k (.st (ixd [] (strsS l) q.2)) []=some r from h)
    refine ⟨_,[],h,fun u=>?_⟩
    have hc:=hc u.on
    have h2:=Nat.le_of_ble_eq_true hb
    obtain ⟨x,hx,hxa⟩:=strsS_get (l:=l) (i:=q.2.toNat) (by omega)
    have hx':l[q.2.toNat*n]? = some x:=by rw [Nat.eq_of_beq_eq_true h1,Nat.mul_one];exact hx
    have:=QEx.idxA ho hD hn hag (hy u) (hz u) hc (avL_get hx')
    rw [hxa] at this
    exact this
   obtain ⟨K,hK,h⟩:=got_e h5
   obtain ⟨h1,h⟩:=tst_e h
   obtain ⟨h2,h⟩:=tst_e h
   obtain ⟨hc,h⟩:=chk_e h
   have h:=(show k (.i K (ixd 0 (intsK K l) q.2)) []=some r from h)
   refine ⟨_,[],h,fun u=>?_⟩
   have hc:=hc u.on
   have h2:=Nat.le_of_ble_eq_true h2
   obtain ⟨x,hx,hxa⟩:=intsK_get (K:=K) (l:=l) (i:=q.2.toNat) (by omega)
   have hx':l[q.2.toNat*n]? = some x:=by rw [Nat.eq_of_beq_eq_true h1,Nat.mul_one];exact hx
   have:=QEx.idxA ho hD hn hag (hy u) (hz u) hc (avL_get hx')
   rw [hxa] at this
   exact this
  ·cases h5
def qField (P:Program) (L:SLS tb) (G:Gd) (t:Nat) (y:Operand) (f:Nat) (k:SV tb->List Nat->Option ρ):Option ρ:=
 got (opd L G y) fun a=>got (fieldAt P t f) fun p=>got (tAg P p.1.type) fun ag=>match a with
 | .agg l=>(match ag with
   | true=>k (.agg ((l.drop p.1.offset).take p.2)) []
   | false=>got (nth l p.1.offset) fun x=>k x [])
 | _=>none
theorem qField_ok {L:SLS tb} {G o t y f} {k:SV tb->List Nat->Option ρ} {r} (ho:o.op=.field t y f) (h:qField P L G t y f k=some r):QOk P L G o k r:=by
 unfold qField at h
 obtain ⟨a,ha,h⟩:=got_e h
 obtain ⟨p,hp,h⟩:=got_e h
 obtain ⟨ag,hag,h⟩:=got_e h
 obtain ⟨fs,h1,h2,h3,h4⟩:=fieldAt_e hp
 have hy:=fun u=>opd_ok (L:=L) (G:=G) u ha
 split at h
 ·split at h
  ·refine ⟨_,[],h,fun u=>QEx.field ho h1 h2 h3 hag (hy u) (.inl ⟨rfl,?_⟩)⟩
   simp only [SV.av];rw [avL_take,avL_drop]
  ·obtain ⟨x,hx,h⟩:=got_e h
   rw [nth_e] at hx
   exact ⟨_,[],h,fun u=>QEx.field ho h1 h2 h3 hag (hy u) (.inr ⟨rfl,avL_get hx⟩)⟩
 ·cases h
/-! slices -/
def nOr (q:Option Int) (d:Nat):Nat:=match q with | none=>d | some n=>n.toNat
def optI (L:SLS tb) (G:Gd):Option Operand->Option (Option Int)
 | none=>some none
 | some y=>got (opd L G y) fun a=>match asI a with
   | some p=>some (some p.2)
   | none=>got (asC a) fun c=>some (some (c.toNat:Int))
theorem optI_ok {L:SLS tb} {G y q d} (u:Gu L G) (h:optI L G y=some q) (h0:0<=q.getD 0):BoundOk L.E y d (nOr q d):=by
 cases y with
 | none=>cases h;exact .none
 | some y=>
   obtain ⟨a,ha,h⟩:=got_e (h:got (opd L G y) _=_)
   have hy:=opd_ok u ha
   split at h
   ·rename_i p hp
    cases h
    rw [asI_e hp] at hy
    exact .some hy h0
   ·obtain ⟨c,hc,h⟩:=got_e h
    cases h
    rw [asC_e hc] at hy
    exact .some (k:=.u8) hy h0
def cutB {α:Type} (G:Gd) (l:List α) (lo hi:Option Int) (k:List α->Option ρ):Option ρ:=match lo,hi with
 | none,none=>k l
 | some a,none=>chk G (0<=a/\a<=l.length) (Let (l.drop a.toNat) k)
 | none,some b=>chk G (0<=b/\b<=l.length) (Let (l.take b.toNat) k)
 | some a,some b=>chk G (0<=a/\a<=b/\b<=l.length) (Let (sub l a b) k)
theorem cutB_e {α:Type} {G:Gd} {l:List α} {lo hi:Option Int} {k:List α->Option ρ} {r:ρ} (h:cutB G l lo hi k=some r):∃ x,k x=some r/\(gc G=true->0<=lo.getD 0/\0<=hi.getD 0/\
 nOr lo 0<=nOr hi l.length/\nOr hi l.length<=l.length/\
 x=(l.drop (nOr lo 0)).take (nOr hi l.length - nOr lo 0)):=by
 unfold cutB at h
 split at h
 ·exact ⟨_,h,fun _=>by simp [nOr]⟩
 ·obtain ⟨hc,h⟩:=chk_e h
  refine ⟨_,h,fun u=>?_⟩
  obtain ⟨h1,h2⟩:=hc u
  refine ⟨h1,by simp,by simp only [nOr];omega,Nat.le_refl _,?_⟩
  simp only [nOr];rw [List.take_of_length_le (by simp)]
 ·obtain ⟨hc,h⟩:=chk_e h
  refine ⟨_,h,fun u=>?_⟩
  obtain ⟨h1,h2⟩:=hc u
  exact ⟨by simp,h1,by simp only [nOr];omega,by simp only [nOr];omega,by simp [nOr]⟩
 ·obtain ⟨hc,h⟩:=chk_e h
  refine ⟨_,h,fun u=>?_⟩
  obtain ⟨h1,h2,h3⟩:=hc u
  exact ⟨h1,by simp only [Option.getD_some];omega,by simp only [nOr];omega,by simp only [nOr];omega,rfl⟩
def qSlice (cx:Ctx P tb) (L:SLS tb) (G:Gd) (t:Nat) (y:Operand) (lo hi:Option Operand) (k:SV tb->List Nat->Option ρ):Option ρ:=
 got (opd L G y) fun a=>got (optI L G lo) fun p=>got (optI L G hi) fun q=>got (P.underlying t) fun D=>match isStrD D with
 | true=>got (asS a) fun s=>cutB G s p q fun x=>k (.st x) []
 | false=>match a with
   | .sl _ E l=>got (elemT P t (tb.sz E)) fun _=>cutB G l p q fun x=>k (.sl false E x) []
   | .row id E off len mc=>got (elemT P t (tb.sz E)) fun _=>chk G (0<=p.getD 0/\0<=q.getD 0/\nOr p 0<=nOr q len/\nOr q len<=mc/\len<=mc) (k (.row id E (off+nOr p 0) (nOr q len - nOr p 0) (mc - nOr p 0)) [])
   | .rw id E=>got (elemT P t (tb.sz E)) fun _=>got (arrAt L id E) fun l=>chk G (0<=p.getD 0/\0<=q.getD 0/\nOr p 0<=nOr q l.length/\nOr q l.length<=l.length) (k (.row id E (nOr p 0) (nOr q l.length - nOr p 0) (l.length - nOr p 0)) [id])
   | .ptr id off=>got (isArD D) fun ar=>got (tSz P ar.2) fun n=>(match find id L.h with
     | some (.arr E _)=>got (arrAt L id E) fun l=>tst (Nat.beq off 0) <| tst (Nat.beq n (tb.sz E)) <| chk G (0<=p.getD 0/\0<=q.getD 0/\nOr p 0<=nOr q ar.1/\nOr q ar.1<=ar.1/\ar.1<=l.length) (k (.row id E (nOr p 0) (nOr q ar.1 - nOr p 0) (ar.1 - nOr p 0)) [id])
     | _=>none)
   | _=>none
theorem qSlice_ok {L:SLS tb} {G o t y lo hi} {k:SV tb->List Nat->Option ρ} {r} (ho:o.op=.slice t y lo hi none) (h:qSlice cx L G t y lo hi k=some r):QOk P L G o k r:=by
 unfold qSlice at h
 obtain ⟨a,ha,h2⟩:=got_e h
 clear h
 obtain ⟨p,hp,h⟩:=got_e h2;clear h2
 obtain ⟨q,hq,h2⟩:=got_e h;clear h
 obtain ⟨D,hD,h⟩:=got_e h2;clear h2
 have hy:=fun u=>opd_ok (L:=L) (G:=G) u ha
 split at h
 ·rename_i hs
  rw [isStrD_e hs] at hD
  obtain ⟨s,hs2,h⟩:=got_e h
  rw [asS_e hs2] at hy
  obtain ⟨x,h,hc⟩:=cutB_e h
  refine ⟨_,[],h,fun u=>?_⟩
  obtain ⟨h1,h2,h3,h4,rfl⟩:=hc u.on
  exact QEx.slStr ho hD (hy u) (optI_ok u hp h1) (optI_ok u hq h2) ⟨h3,h4⟩
 ·cases a with
  | sl c E l=>
    obtain ⟨ET,hE,h⟩:=got_e h
    obtain ⟨x,h,hc⟩:=cutB_e h
    refine ⟨_,[],h,fun u=>?_⟩
    obtain ⟨h1,h2,h3,h4,rfl⟩:=hc u.on
    have:=QEx.slice ho (elemT_e hE) (hy u) (optI_ok u hp h1) (optI_ok (d:=(l.map (tb.el E)).length) u hq h2) (by simpa using h3) (by simpa using h4)
    simp only [SV.av,List.map_take,List.map_drop]
    rw [List.length_map] at this;exact this
  | row id E off len mc=>
    obtain ⟨ET,hE,h⟩:=got_e h
    obtain ⟨hc,h⟩:=chk_e h
    refine ⟨_,[],h,fun u=>?_⟩
    obtain ⟨h1,h2,h3,h4,h5⟩:=hc u.on
    have:=QEx.sliceR (need:=[]) ho (elemT_e hE) ((hy u).r (by simp [ho,Op.operands])) (optI_ok u hp h1) (optI_ok (d:=len) u hq h2) h3 h4 (fun _=>h5)
    simp only [SV.av]
    rw [Nat.add_mul];exact this
  | rw id E=>
    obtain ⟨ET,hE,h⟩:=got_e h
    obtain ⟨l,hl,h⟩:=got_e h
    have hl:=arrAt_e hl
    obtain ⟨hc,h⟩:=chk_e h
    refine ⟨_,_,h,fun u=>?_⟩
    obtain ⟨h1,h2,h3,h4⟩:=hc u.on
    rw [needAV_one hl]
    have:=QEx.sliceR ho (elemT_e hE) (ROk.rw (xs:=l.map (tb.el E)) (hy u) (by simp [ho,Op.operands]) (show _∈[(id,elC tb E l)] from mem1) (elC_len cx.ok) (cx.ok E).pos)
     (optI_ok u hp h1) (optI_ok (d:=(l.map (tb.el E)).length) u hq h2) (by simpa using h3) (by simpa using h4) (fun _=>Nat.le_refl _)
    rw [List.length_map,Nat.zero_add] at this
    exact this
  | ptr id off=>
    obtain ⟨ar,har,h⟩:=got_e h
    rw [isArD_e har] at hD
    obtain ⟨n,hn,h⟩:=got_e h
    split at h
    ·obtain ⟨l,hl,h⟩:=got_e h
     have hl:=arrAt_e hl
     obtain ⟨h0,h⟩:=tst_e h
     obtain ⟨h1,h⟩:=tst_e h
     have h0:=Nat.eq_of_beq_eq_true h0
     rw [Nat.eq_of_beq_eq_true h1] at hn
     obtain ⟨hc,h⟩:=chk_e h
     refine ⟨_,_,h,fun u=>?_⟩
     obtain ⟨h1,h2,h3,h4,h5⟩:=hc u.on
     rw [needAV_one hl]
     have:=QEx.sliceA (l:=elC tb _ l) ho hD hn (hy u) (optI_ok u hp h1) (optI_ok (d:=ar.1) u hq h2) h3 h4 (by rw [elC_length cx,h0,Nat.zero_add];exact Nat.mul_le_mul_right _ h5)
     rw [h0,Nat.zero_add] at this
     exact this
    ·cases h
  | _=>cases h
def qSlice3 (P:Program) (L:SLS tb) (G:Gd) (t:Nat) (y hi mx:Operand) (k:SV tb->List Nat->Option ρ):Option ρ:=
 got (opd L G y) fun a=>got (opd L G hi) fun b=>got (asI b) fun p=>got (opd L G mx) fun c=>got (asI c) fun q=>match a with
 | .sl _ E l=>got (elemT P t (tb.sz E)) fun _=>chk G (0<=p.2/\p.2<=l.length/\q.2=p.2) (Let (l.take p.2.toNat) fun x=>k (.sl true E x) [])
 | _=>none
theorem QEx.capT {o:Oper} {e:Env} {y t sz l} (ho:o.op=.call { callee:=.builtin .cap,args:=#[y],argTypes:=#[t] }) (ht:∃ E,P.underlying t=some (.slice E)) (hy:OpdOk e y (.sl true sz l)):
 QEx P o e [] (.v (.int .i64 l.length)):=
 .pure fun _ _ _ _ _ ac w _ _ hr=>by
  have h1:=hy.rep hr (by simp [ho,Op.operands,Call.operands])
  obtain ⟨E,hE⟩:=ht
  refine ⟨_,?_,.v⟩
  obtain ⟨ad,n,cap,cs,hv,h2,-,-,-,-,-,h3,-⟩:=sl_cells h1
  have h3:=h3 rfl
  subst h3
  rw [<- h2]
  simp [execOp,ho,hv,resolve,invoke,builtin,Builtin.cap_,underlying,hE,goInt]
def qCap (P:Program) (L:SLS tb) (G:Gd) (y:Operand) (t:Nat) (k:SV tb->List Nat->Option ρ):Option ρ:=
 got (opd L G y) fun a=>got (P.underlying t) fun D=>got (isSlD D) fun _=>match isNil a with
 | true=>k (.i .i64 0) []
 | false=>match a with
   | .em _=>k (.i .i64 0) []
   | .sl true _ l=>Let (l.length:Int) fun n=>k (.i .i64 n) []
   | _=>none
theorem qCap_ok {L:SLS tb} {G o y t} {k:SV tb->List Nat->Option ρ} {r} (ho:o.op=.call { callee:=.builtin .cap,args:=#[y],argTypes:=#[t] }) (h:qCap P L G y t k=some r):QOk P L G o k r:=by
 unfold qCap at h
 obtain ⟨a,ha,h⟩:=got_e h
 obtain ⟨D,hD,h⟩:=got_e h
 obtain ⟨E,hE,h⟩:=got_e h
 rw [isSlD_e hE] at hD
 have hy:=fun u=>opd_ok (L:=L) (G:=G) u ha
 split at h
 ·rename_i hn
  refine ⟨_,[],h,fun u=>?_⟩
  have h1:OpdOk L.E y (.sl true 1 []):=(hy u).sub (by rw [isNil_e hn];exact .nil)
  exact QEx.capT ho ⟨_,hD⟩ h1
 ·split at h
  ·exact ⟨_,[],h,fun u=>QEx.capT ho ⟨_,hD⟩ (hy u)⟩
  ·refine ⟨_,[],h,fun u=>?_⟩
   have:=QEx.capT ho ⟨_,hD⟩ (hy u)
   rw [List.length_map] at this
   exact this
  ·cases h
end
end
section
open Go.RowKit
variable [GlC]
section
variable {P:Program} {tb:Tb} {ρ:Type} {cx:Ctx P tb}
def cellsS:SV tb->List (SV tb)
 | .agg l=>l
 | x=>[x]
theorem cellsS_av (x:SV tb) (h:∀ G y,x≠.opt G y):avL (cellsS x)=x.av.cells:=by cases x <;> first | rfl | exact absurd rfl (h _ _)
def solidS:SV tb->Bool
 | .agg _=>true
 | .i _ _=>true
 | .b8 _=>true
 | .bo _=>true
 | .st _=>true
 | .con v=>oneCell v
 | .sl _ _ _=>true
 | .em _=>true
 | .cp _=>true
 | .fn _ _=>true
 | .cl _ _ _ _ _ _=>true
 | .ptr _ _=>true
 | .epr _ _ _ _=>true
 | .row _ _ _ _ _=>true
 | .rw _ _=>true
 | .ifc _ _=>true
 | _=>false
theorem solidS_e {x:SV tb} (h:solidS x=true):x.av.solid=true/\avL (cellsS x)=x.av.cells:=by
 refine ⟨?_,cellsS_av x ?_⟩
 ·cases x <;> first | rfl | (simp [solidS] at h;done) | exact h
 ·rintro G y rfl;simp [solidS] at h
/-! structs -/
def fillS (L:SLS tb) (G:Gd) (pl:Nat->Option (Nat × Nat)):List (Nat × Operand)->List (SV tb)->Option (List (SV tb))
 | [],Z=>some Z
 | (i,y)::r,Z=>got (pl i) fun p=>got (opd L G y) fun x=>tst (solidS x) <| tst (Nat.beq (cellsS x).length p.2) <| tst (Nat.ble (p.1+p.2) Z.length) <| fillS L G pl r (Z.take p.1++cellsS x++Z.drop (p.1+p.2))
theorem fillS_ok {L:SLS tb} {G pl} (u:Gu L G):∀ {ps:List (Nat × Operand)} {Z Z'},fillS L G pl ps Z=some Z'->FillOk L.E pl ps (avL Z) (avL Z')
 | [],_,_,h=>by cases h;exact .nil
 | (i,y)::r,Z,Z',h=>by
   unfold fillS at h
   obtain ⟨p,hp,h⟩:=got_e h
   obtain ⟨x,hx,h⟩:=got_e h
   obtain ⟨h1,h⟩:=tst_e h
   obtain ⟨h2,h⟩:=tst_e h
   obtain ⟨h3,h⟩:=tst_e h
   obtain ⟨g1,g2⟩:=solidS_e h1
   refine .cons (off:=p.1) (sz:=p.2) hp (opd_ok u hx) g1 (by rw [<- g2,avL_length];exact Nat.eq_of_beq_eq_true h2) (by rw [avL_length];exact Nat.le_of_ble_eq_true h3) ?_
   have:=fillS_ok u h
   rwa [avL_append,avL_append,avL_take,avL_drop,g2] at this
theorem Zs.con:∀ zs:List Value,Zs (avL (tb:=tb) (zs.map SV.con)) zs
 | []=>.nil
 | z::zs=>.v (Zs.con zs)
def zeroS (P:Program) (t:Nat):Option (List (SV tb)):=got (tZero P t) fun zs=>tst (zs.all oneCell) (some (zs.map SV.con))
theorem zeroS_e {t Z} (h:zeroS (tb:=tb) P t=some Z):ZeroT P t (avL Z):=by
 obtain ⟨zs,hz,h⟩:=got_e h
 obtain ⟨h1,h⟩:=tst_e h
 cases h
 exact ⟨zs,hz,Zs.con zs,h1⟩
def qBuild (P:Program) (L:SLS tb) (G:Gd) (t:Nat) (ps:Array (Nat × Operand)) (k:SV tb->List Nat->Option ρ):Option ρ:=
 got (P.underlying t) fun D=>got (zeroS P t) fun Z=>match isStD D with
 | some fs=>tst (fs.toList.all fun f=>(tSz P f.type).isSome) <| got (fillS L G (fieldPl P fs) ps.toList Z) fun Z'=>k (.agg Z') []
 | none=>got (isArD D) fun p=>got (tSz P p.2) fun sz=>got (fillS L G (fun i=>some (i*sz,sz)) ps.toList Z) fun Z'=>k (.agg Z') []
theorem qBuild_ok {L:SLS tb} {G o t ps} {k:SV tb->List Nat->Option ρ} {r} (ho:o.op=.build t ps) (h:qBuild P L G t ps k=some r):QOk P L G o k r:=by
 unfold qBuild at h
 obtain ⟨D,hD,h⟩:=got_e h
 obtain ⟨Z,hZ,h⟩:=got_e h
 have hZ:=zeroS_e hZ
 split at h
 ·rename_i fs hfs
  rw [isStD_e hfs] at hD
  obtain ⟨h1,h⟩:=tst_e h
  obtain ⟨Z',hZ',h⟩:=got_e h
  exact ⟨_,[],h,fun u=>QEx.buildZ ho hD hZ h1 (fillS_ok u hZ')⟩
 ·obtain ⟨p,hp,h⟩:=got_e h
  rw [isArD_e hp] at hD
  obtain ⟨sz,hsz,h⟩:=got_e h
  obtain ⟨Z',hZ',h⟩:=got_e h
  exact ⟨_,[],h,fun u=>QEx.buildA ho hD hsz hZ (fillS_ok u hZ')⟩
def elemsS (cx:Ctx P tb) (L:SLS tb) (G:Gd) (E:tb.Ix):Nat->List (Nat × Operand)->Option (List (tb.T E))
 | _,[]=>some []
 | i,(j,y)::r=>tst (Nat.beq j i) <| got (opd L G y) fun x=>got ((cx.cd E).of x) fun v=>got (elemsS cx L G E (i+1) r) fun l=>some (v::l)
theorem elemsS_ok {L:SLS tb} {G E} (u:Gu L G):∀ {ps:List (Nat × Operand)} {i l},elemsS cx L G E i ps=some l->ElemsOk L.E (tb.sz E) i ps (l.map (tb.el E))
 | [],_,_,h=>by cases h;exact .nil
 | (j,y)::r,i,l,h=>by
   unfold elemsS at h
   obtain ⟨h1,h⟩:=tst_e h
   obtain ⟨x,hx,h⟩:=got_e h
   obtain ⟨v,hv,h⟩:=got_e h
   obtain ⟨l',hl',h⟩:=got_e h
   cases h
   obtain rfl:=Nat.eq_of_beq_eq_true h1
   exact .cons ((opd_ok u hx).sub ((cx.ok E).of _ _ hv)) ((cx.ok E).solid v) ((cx.ok E).len v) ((cx.ok E).bare v).1 (elemsS_ok u hl')
def qBuildS (cx:Ctx P tb) (L:SLS tb) (G:Gd) (t n:Nat) (ps:Array (Nat × Operand)) (k:SV tb->List Nat->Option ρ):Option ρ:=
 got (P.underlying t) fun D=>got (isSlD D) fun E'=>got (tb.look E') fun E=>got (elemT P t (tb.sz E)) fun _=>got (elemsS cx L G E 0 ps.toList) fun l=>tst (Nat.beq l.length n) <| tst (Nat.ble (n*tb.sz E) (2 ^ 24)) <| match n with | 0=>k (.em E) [] | _+1=>k (.sl true E l) []
theorem qBuildS_ok {L:SLS tb} {G o t n ps} {k:SV tb->List Nat->Option ρ} {r} (ho:o.op=.buildSlice t n ps) (h:qBuildS cx L G t n ps k=some r):QOk P L G o k r:=by
 unfold qBuildS at h
 obtain ⟨D,hD,h⟩:=got_e h
 obtain ⟨E',hE',h⟩:=got_e h
 obtain ⟨E,hE,h⟩:=got_e h
 obtain ⟨p,hp,h⟩:=got_e h
 obtain ⟨l,hl,h⟩:=got_e h
 obtain ⟨h1,h⟩:=tst_e h
 obtain ⟨h2,h⟩:=tst_e h
 have key:=fun u=>QEx.buildSlice ho (elemT_e hp) (elemsS_ok u hl) (by rw [List.length_map];exact Nat.eq_of_beq_eq_true h1) (Nat.le_of_ble_eq_true h2)
 have hl0:=Nat.eq_of_beq_eq_true h1
 cases n with
 | zero=>
   have:l=[]:=List.eq_nil_of_length_eq_zero hl0
   subst this
   exact ⟨_,[],h,key⟩
 | succ n=>exact ⟨_,[],h,key⟩
def opdsS (L:SLS tb) (G:Gd):List Operand->Option (List (SV tb))
 | []=>some []
 | y::r=>got (opd L G y) fun x=>got (opdsS L G r) fun l=>some (x::l)
theorem opdsS_ok {L:SLS tb} {G} (u:Gu L G):∀ {ys:List Operand} {l},opdsS L G ys=some l->OpdsOk L.E ys (avL l)
 | [],_,h=>by cases h;exact .nil
 | y::r,l,h=>by
   unfold opdsS at h
   obtain ⟨x,hx,h⟩:=got_e h
   obtain ⟨l',hl',h⟩:=got_e h
   cases h
   exact .cons (opd_ok u hx) (opdsS_ok u hl')
def qMkF (L:SLS tb) (G:Gd) (fn:Fn) (fi ca:Array Operand) (k:SV tb->List Nat->Option ρ):Option ρ:=match fn,fi.toList with
 | .func f,[]=>got (opdsS L G ca.toList) fun l=>k (.fn f l) []
 | _,_=>none
theorem qMkF_ok {L:SLS tb} {G o fn fi ca} {k:SV tb->List Nat->Option ρ} {r} (ho:o.op=.makeFunc fn fi ca) (h:qMkF L G fn fi ca k=some r):QOk P L G o k r:=by
 unfold qMkF at h
 split at h
 ·rename_i f hfi
  obtain ⟨l,hl,h⟩:=got_e h
  exact ⟨_,[],h,fun u=>QEx.mkF ho (by cases fi;simpa using hfi) (opdsS_ok u hl)⟩
 ·cases h
def qNil (L:SLS tb) (G:Gd) (y:Operand) (k:SV tb->List Nat->Option ρ):Option ρ:=got (opd L G y) fun a=>match a with
 | .cp _=>k .undef []
 | .ptr id off=>k (.ptr id off) []
 | .epr id E i fo=>k (.epr id E i fo) []
 | _=>none
theorem qNil_ok {L:SLS tb} {G o y} {k:SV tb->List Nat->Option ρ} {r} (ho:o.op=.nilCheck y) (h:qNil L G y k=some r):QOk P L G o k r:=by
 unfold qNil at h
 obtain ⟨a,ha,h⟩:=got_e h
 have hy:=fun u=>opd_ok (L:=L) (G:=G) u ha
 split at h
 ·exact ⟨_,[],h,fun u=>QEx.nilC ho (hy u)⟩
 ·exact ⟨_,[],h,fun u=>QEx.nilP ho (hy u)⟩
 ·exact ⟨_,[],h,fun u=>QEx.nilP ho (hy u)⟩
 ·cases h
theorem qSlice3_ok {L:SLS tb} {G o t y hi mx} {k:SV tb->List Nat->Option ρ} {r} (ho:o.op=.slice t y none (some hi) (some mx)) (h:qSlice3 P L G t y hi mx k=some r):QOk P L G o k r:=by
 unfold qSlice3 at h
 obtain ⟨a,ha,h⟩:=got_e h
 obtain ⟨b,hb,h⟩:=got_e h
 obtain ⟨p,hp,h⟩:=got_e h
 obtain ⟨c,hc1,h⟩:=got_e h
 obtain ⟨q,hq,h⟩:=got_e h
 have hy:=fun u=>opd_ok (L:=L) (G:=G) u ha
 have hz:=fun u=>opd_ok (L:=L) (G:=G) u hb
 have hw:=fun u=>opd_ok (L:=L) (G:=G) u hc1
 rw [asI_e hp] at hz
 rw [asI_e hq] at hw
 split at h
 ·obtain ⟨ET,hE,h⟩:=got_e h
  obtain ⟨hc,h⟩:=chk_e h
  refine ⟨_,[],h,fun u=>?_⟩
  obtain ⟨h1,h2,h3⟩:=hc u.on
  rw [h3] at hw
  have:=QEx.slice3 ho (elemT_e hE) (hy u) (hz u) (hw u) h1 (by rw [List.length_map];exact h2)
  simp only [SV.av,List.map_take];exact this
 ·cases h
def qConv2 (cx:Ctx P tb) (L:SLS tb) (G:Gd) (s d:Nat) (y:Operand) (k:SV tb->List Nat->Option ρ):Option ρ:=
 got (opd L G y) fun a=>match a with
 | .rw id E=>got (P.underlying d) fun D=>got (P.underlying s) fun S=>tst (isStrD D) <| got (isSlD S) fun E'=>got (P.underlying E') fun ED=>got (isIntD ED) fun ke=>tst (isU8 ke) <| got (arrAt L id E) fun l=>got (bytesOf tb E l) fun bs=>k (.st bs) [id]
 | .row id E off len mc=>got (P.underlying d) fun D=>got (P.underlying s) fun S=>tst (isStrD D) <| got (isSlD S) fun E'=>got (P.underlying E') fun ED=>got (isIntD ED) fun ke=>tst (isU8 ke) <| got (arrAt L id E) fun l=>chk G (off+len<=l.length) <| got (bytesOf tb E ((l.drop off).take len)) fun bs=>k (.st bs) [id]
 | _=>qConv P L G s d y k
theorem elC_one {E:tb.Ix} {l:List (tb.T E)} {bs:List UInt8} (h:l.map (tb.el E)=bs.map byteAV):elC tb E l=bs.map byteAV:=by
 unfold elC;rw [h,flat_bytes]
theorem qConv2_ok {L:SLS tb} {G o s d y} {k:SV tb->List Nat->Option ρ} {r} (ho:o.op=.convert s d y) (h:qConv2 cx L G s d y k=some r):QOk P L G o k r:=by
 unfold qConv2 at h
 obtain ⟨a,ha,h2⟩:=got_e h
 have hy:=fun u=>opd_ok (L:=L) (G:=G) u ha
 clear h
 cases a with
 | rw id E=>
   obtain ⟨D,hD,h⟩:=got_e h2;clear h2
   obtain ⟨S,hS,h⟩:=got_e h
   obtain ⟨h1,h⟩:=tst_e h
   obtain ⟨E',hE,h⟩:=got_e h
   obtain ⟨ED,hED,h⟩:=got_e h
   obtain ⟨ke,hke,h⟩:=got_e h
   obtain ⟨h3,h⟩:=tst_e h
   obtain ⟨l,hl,h⟩:=got_e h
   obtain ⟨bs,hbs,h⟩:=got_e h
   have hl:=arrAt_e hl
   rw [isStrD_e h1] at hD
   rw [isSlD_e hE] at hS
   rw [isIntD_e hke,isU8_e h3] at hED
   obtain ⟨g1,g2⟩:=bytesOf_e hbs
   have hlen:l.length=bs.length:=by simpa using congrArg List.length g2
   refine ⟨_,_,h,fun u=>?_⟩
   rw [needAV_one hl]
   have hr:=ROk.rw (o:=o) (need:=[(id,elC tb E l)]) (xs:=l.map (tb.el E)) (hy u) (by simp [ho,Op.operands]) (show _∈[(id,elC tb E l)] from mem1) (elC_len cx.ok) (cx.ok E).pos
   rw [g1] at hr
   refine QEx.rowStr ho hS hED hD hr mem1 ?_ (by rw [List.length_map,hlen])
   rw [elC_one g2,List.drop_zero,List.length_map,hlen,<- List.length_map (f:=byteAV),List.take_length]
 | row id E off len mc=>
   obtain ⟨D,hD,h⟩:=got_e h2;clear h2
   obtain ⟨S,hS,h⟩:=got_e h
   obtain ⟨h1,h⟩:=tst_e h
   obtain ⟨E',hE,h⟩:=got_e h
   obtain ⟨ED,hED,h⟩:=got_e h
   obtain ⟨ke,hke,h⟩:=got_e h
   obtain ⟨h3,h⟩:=tst_e h
   obtain ⟨l,hl,h⟩:=got_e h
   obtain ⟨hc,h⟩:=chk_e h
   obtain ⟨bs,hbs,h⟩:=got_e h
   have hl:=arrAt_e hl
   rw [isStrD_e h1] at hD
   rw [isSlD_e hE] at hS
   rw [isIntD_e hke,isU8_e h3] at hED
   obtain ⟨g1,g2⟩:=bytesOf_e hbs
   refine ⟨_,_,h,fun u=>?_⟩
   have hc:=hc u.on
   rw [needAV_one hl]
   have hr:=(hy u).r (o:=o) (need:=[(id,elC tb E l)]) (by simp [ho,Op.operands])
   simp only [SV.av] at hr
   rw [g1,Nat.mul_one] at hr
   have hlen:bs.length=len:=by
    have:=congrArg List.length g2
    rw [List.length_map,List.length_map,List.length_take,List.length_drop] at this
    omega
   refine QEx.rowStr ho hS hED hD hr mem1 ?_ hlen
   rw [<- g2]
   unfold elC
   have h5:=flat_drop (sz:=1) (l:=l.map (tb.el E)) off (by rw [<- g1];exact elC_len cx.ok)
   rw [Nat.mul_one] at h5
   rw [h5,<- List.map_drop]
   have h6:=flat_take (sz:=1) (l:=(l.drop off).map (tb.el E)) len (by rw [<- g1];exact elC_len cx.ok)
   rw [Nat.mul_one] at h6
   rw [h6,<- List.map_take,g2,flat_bytes]
 | _=>exact qConv_ok ho h2
end
end
section
open Go.RowKit
variable [GlC]
def FzL (id:Nat) (l:List AV) (ys xs:List AV):Prop:=∀ m bl m' bl',Frz id l m bl m' bl'->∀ vs,Reps m bl ys vs->Reps m' bl' xs vs
theorem FzOk.undef {id l y}:FzOk id l y .undef:=fun _ _ _ _ _ _ _=>.undef
theorem FzL.nil {id l}:FzL id l [] []:=fun _ _ _ _ _ vs r=>by cases r;exact .nil
theorem FzL.cons {id l y x ys xs} (h:FzOk id l y x) (k:FzL id l ys xs):FzL id l (y::ys) (x::xs):=fun m bl m' bl' f vs r=>by
 cases r with | cons a b=>exact .cons (h _ _ _ _ f _ a) (k _ _ _ _ f _ b)
theorem FzOk.agg {id l ys xs} (h:FzL id l ys xs):FzOk id l (.agg ys) (.agg xs):=fun m bl m' bl' f v r=>by cases r with | agg a b=>exact .agg (h _ _ _ _ f _ a) b
theorem FzOk.tup {id l ys xs} (h:FzL id l ys xs):FzOk id l (.tup ys) (.tup xs):=fun m bl m' bl' f v r=>by cases r with | tup a=>exact .tup (h _ _ _ _ f _ a)
theorem FzOk.clo {id l g ys xs} (h:FzL id l ys xs):FzOk id l (.clo g ys) (.clo g xs):=fun m bl m' bl' f v r=>by cases r with | clo a=>exact .clo (h _ _ _ _ f _ a)
theorem FzOk.opt {id l c y x} (h:FzOk id l y x):FzOk id l (.opt c y) (.opt c x):=fun m bl m' bl' f v r=>by cases r with | opt a b=>exact .opt (fun e=>h _ _ _ _ f _ (a e)) b
theorem FzOk.ifc {id l t y x} (h:FzOk id l y x):FzOk id l (.ifc t y) (.ifc t x):=fun m bl m' bl' f v r=>by cases r with | ifc a=>exact .ifc (h _ _ _ _ f _ a)
theorem FzOk.bare {id l y} (h:y.isBare=true):FzOk id l y y:=by
 have:=FzOk.of_re (id:=id) (l:=l) y
 rwa [bare_of h] at this
theorem bare_cons {x:AV} {l:List AV} (h:x.isBare=true) (k:allBare l=true):allBare (x::l)=true:=by
 show (AV.clean _ x&&cleanL _ l)=true
 rw [show AV.clean (fun _=>false) x=true from h,show cleanL (fun _=>false) l=true from k];rfl
theorem Reps.split {m:Mem} {bl:Names}:∀ {a c:List AV} {vs},Reps m bl (a++c) vs->∃ v1 v2,vs=v1++v2/\Reps m bl a v1/\Reps m bl c v2
 | [],c,vs,r=>⟨[],vs,rfl,.nil,r⟩
 | x :: a,c,vs,r=>by
   cases r with
   | cons h t=>
     obtain ⟨v1,v2,rfl,h1,h2⟩:=Reps.split t
     exact ⟨_::v1,v2,rfl,.cons h h1,h2⟩
section
variable {P:Program} {tb:Tb} {ρ:Type} {cx:Ctx P tb}
mutual
theorem has_all {q:Nat->Bool} (hq:∀ i,q i=true):∀ x:SV tb,x.has q=true
 | .undef=>rfl
 | .i _ _=>rfl
 | .b8 _=>rfl
 | .bo _=>rfl
 | .st _=>rfl
 | .con _=>rfl
 | .agg l=>hasL_all hq l
 | .tup l=>hasL_all hq l
 | .sl _ _ _=>rfl
 | .em _=>rfl
 | .cp _=>rfl
 | .fn _ l=>hasL_all hq l
 | .ptr id _=>hq id
 | .epr id _ _ _=>hq id
 | .row id _ _ _ _=>hq id
 | .rw id _=>hq id
 | .opt _ x=>has_all hq x
 | .cl _ _ _ _ _ _=>rfl
 | .ifc _ x=>has_all hq x
theorem hasL_all {q:Nat->Bool} (hq:∀ i,q i=true):∀ l:List (SV tb),hasL q l=true
 | []=>rfl
 | x::l=>by rw [hasL_cons,has_all hq x,hasL_all hq l];rfl
end
mutual
theorem has_bare:∀ {x:SV tb},x.has (fun _=>false)=true->x.av.isBare=true
 | .undef,_=>rfl
 | .i _ _,_=>rfl
 | .b8 _,_=>rfl
 | .bo _,_=>rfl
 | .st _,_=>rfl
 | .con _,_=>rfl
 | .agg l,h=>hasL_bare (l:=l) h
 | .tup l,h=>hasL_bare (l:=l) h
 | .sl _ _ _,_=>rfl
 | .em _,_=>rfl
 | .cp _,_=>rfl
 | .fn _ l,h=>hasL_bare (l:=l) h
 | .ptr id off,h=>by cases h
 | .epr id E i fo,h=>by cases h
 | .row id E off len mc,h=>by cases h
 | .rw id E,h=>by cases h
 | .opt _ x,h=>has_bare (x:=x) h
 | .cl _ _ _ _ caps hc,_=>hc.2.1
 | .ifc _ x,h=>has_bare (x:=x) h
theorem hasL_bare:∀ {l:List (SV tb)},hasL (fun _=>false) l=true->allBare (avL l)=true
 | [],_=>rfl
 | x::l,h=>by
   rw [hasL_cons,Bool.and_eq_true] at h
   exact bare_cons (has_bare h.1) (hasL_bare h.2)
end
theorem el_bare (cx:Ctx P tb) {E:tb.Ix} (l:List (tb.T E)):allBare ((l.map (tb.el E)).flatMap AV.cells)=true:=by
 induction l with
 | nil=>rfl
 | cons x l ih=>
   rw [List.map_cons,List.flatMap_cons]
   show cleanL _ _=true
   rw [cleanL_append,show cleanL _ (tb.el E x).cells=true from ((cx.ok E).bare x).2,show cleanL _ _=true from ih];rfl
def SC.ce:SC tb->Option (List AV)
 | .cells l=>some (avL l)
 | .arr E l=>some (elC tb E l)
 | .iter _ _=>none
mutual
theorem res_fz (cx:Ctx P tb) {g:Gn tb} {id:Nat} {c:SC tb} {l:List AV} (hc:c.ce=some l) (hg:find id g=none):∀ x:SV tb,FzOk id l (x.res g).av (x.res ((id,Gone.fz c)::g)).av
 | .undef=>.undef
 | .i _ _=>.bare rfl
 | .b8 _=>.bare rfl
 | .bo _=>.bare rfl
 | .st _=>.bare rfl
 | .con _=>.bare rfl
 | .agg xs=>.agg (resL_fz cx hc hg xs)
 | .tup xs=>.tup (resL_fz cx hc hg xs)
 | .sl _ _ _=>.bare rfl
 | .em _=>.bare rfl
 | .cp _=>.bare rfl
 | .fn f xs=>.clo (resL_fz cx hc hg xs)
 | .ptr i off=>by
   simp only [SV.res]
   rw [find_cons]
   by_cases hi:id=i
   ·subst hi
    rw [hg,if_pos rfl]
    cases c with
    | cells cl=>
      cases hc
      show FzOk id (avL cl) (.ptr id off) (.cptr (avL (cl.drop off)))
      rw [avL_drop];exact .ptr
    | arr E' l'=>exact .undef
    | iter _ _=>exact .undef
   ·rw [if_neg hi]
    cases hf:find i g with
    | none=>
      have:=FzOk.of_re (id:=id) (l:=l) (.ptr i off)
      simp only [AV.re,if_neg (Ne.symm hi)] at this
      exact this
    | some c'=>
      cases c' with
      | drop=>exact .undef
      | fz c'=>cases c' with
        | cells _=>exact .bare rfl
        | arr _ _=>exact .undef
        | iter _ _=>exact .undef
 | .epr i E k fo=>by
   simp only [SV.res]
   rw [find_cons]
   by_cases hi:id=i
   ·rw [if_pos hi];exact .undef
   ·rw [if_neg hi]
    cases hf:find i g with
    | none=>
      have:=FzOk.of_re (id:=id) (l:=l) (.ptr i (k.toNat*tb.sz E+fo))
      simp only [AV.re,if_neg (Ne.symm hi)] at this
      exact this
    | some c'=>exact .undef
 | .row i E off len mc=>by
   simp only [SV.res]
   rw [find_cons]
   by_cases hi:id=i
   ·rw [if_pos hi];exact .undef
   ·rw [if_neg hi]
    cases hf:find i g with
    | none=>
      have:=FzOk.of_re (id:=id) (l:=l) (.row i (off*tb.sz E) len mc (tb.sz E))
      simp only [AV.re,if_neg (Ne.symm hi)] at this
      exact this
    | some c'=>exact .undef
 | .rw i E => by
   simp only [SV.res]
   rw [find_cons]
   by_cases hi:id=i
   ·subst hi
    rw [hg,if_pos rfl]
    cases c with
    | cells cl=>exact .undef
    | iter _ _=>exact .undef
    | arr E' l'=>
      cases hc
      show FzOk id (elC tb E' l') (.rw id (tb.sz E)) (SV.av (match tb.dec E' E with | isTrue h=>.sl false E (h ▸ l') | isFalse _=>.undef))
      split
      ·rename_i h _
       subst h
       exact .rw (els:=l'.map (tb.el E')) (by
        intro x hx
        obtain ⟨y,-,rfl⟩:=List.mem_map.1 hx
        exact (cx.ok E').len y) (cx.ok E').pos rfl
      ·exact .undef
   ·rw [if_neg hi]
    cases hf:find i g with
    | none=>
      have:=FzOk.of_re (id:=id) (l:=l) (.rw i (tb.sz E))
      simp only [AV.re,if_neg (Ne.symm hi)] at this
      exact this
    | some c'=>
      cases c' with
      | drop=>exact .undef
      | fz c'=>cases c' with
        | cells _=>exact .undef
        | iter _ _=>exact .undef
        | arr E' l'=>
          show FzOk id l (SV.av (match tb.dec E' E with | isTrue h=>.sl false E (h ▸ l') | isFalse _=>.undef)) (SV.av (match tb.dec E' E with | isTrue h=>.sl false E (h ▸ l') | isFalse _=>.undef))
          split
          ·exact .bare rfl
          ·exact .undef
 | .opt _ x=>.opt (res_fz cx hc hg x)
 | .cl _ _ _ _ _ h=>.bare h.2.1
 | .ifc _ x=>.ifc (res_fz cx hc hg x)
theorem resL_fz (cx:Ctx P tb) {g:Gn tb} {id:Nat} {c:SC tb} {l:List AV} (hc:c.ce=some l) (hg:find id g=none):∀ xs:List (SV tb),FzL id l (avL (resL g xs)) (avL (resL ((id,Gone.fz c)::g) xs))
 | []=>.nil
 | x::xs=>.cons (res_fz cx hc hg x) (resL_fz cx hc hg xs)
end
/- names that occur -/
mutual
def SV.nms:SV tb->List Nat->List Nat
 | .agg l,a=>nmsL l a
 | .tup l,a=>nmsL l a
 | .fn _ l,a=>nmsL l a
 | .ptr id _,a=>id::a
 | .epr id _ _ _,a=>id::a
 | .row id _ _ _ _,a=>id::a
 | .rw id _,a=>id::a
 | .opt _ x,a=>x.nms a
 | .ifc _ x,a=>x.nms a
 | .undef,a=>a
 | .i _ _,a=>a
 | .b8 _,a=>a
 | .bo _,a=>a
 | .st _,a=>a
 | .con _,a=>a
 | .sl _ _ _,a=>a
 | .em _,a=>a
 | .cp _,a=>a
 | .cl _ _ _ _ _ _,a=>a
def nmsL:List (SV tb)->List Nat->List Nat
 | [],a=>a
 | x::l,a=>x.nms (nmsL l a)
end
def bareC (L:SLS tb) (id:Nat):Option (SC tb):=match keepQ L.gn id with
 | false=>none
 | true=>match find id L.h with
   | some (.arr E l)=>some (.arr E l)
   | some (.cells l)=>tst (hasL (fun _=>false) (resL L.gn l)) (some (.cells (resL L.gn l)))
   | _=>none
theorem bareC_e (cx:Ctx P tb) {L:SLS tb} {id c} (h:bareC L id=some c):∃ l,c.ce=some l/\find id (avH L.gn L.h)=some (.cells l)/\allBare l=true/\find id L.gn=none:=by
 unfold bareC at h
 split at h
 ·cases h
 ·rename_i hk
  have hk':=keepQ_e hk
  split at h
  ·rename_i E l hf
   cases h
   exact ⟨_,rfl,by rw [find_avH,if_pos hk,hf];rfl,el_bare cx l,hk'⟩
  ·rename_i l hf
   obtain ⟨h1,h⟩:=tst_e h
   cases h
   exact ⟨_,rfl,by rw [find_avH,if_pos hk,hf];rfl,hasL_bare h1,hk'⟩
  ·cases h
/-! lending -/
theorem lend_frz {B:Nat} {m0:Mem} {h:Hp} {m:Mem} {bl:Names} {w:World} (s:WSim B m0 h m bl w) {id:Nat} {l:List AV} {r:List (Nat × List Value)} (hf:find id h=some (.cells l)) (hb:allBare l=true)
 (hnd:id∉r.map (·.1)) (bl1:Names) (h1:bl1 id=bl id):∃ pre,LentOk m bl w [(id,pre)]/\∀ bl2:Names,(∀ i x,i≠id->bl1 i=some x->bl2 i=some x)->Frz id l (lend m bl r) bl1 (lend m bl ((id,pre)::r)) bl2:=by
 rcases s.blk id l hf with ⟨g1,g2⟩ | ⟨b,n,arr,T,pre,rest,g1,g2,g3,g4,g5,g6⟩
 ·refine ⟨[],?_,fun bl2 h2=>⟨?_,h2,.inl ⟨by rw [h1];exact g1,g2⟩⟩⟩
  ·intro p hp b n hbn
   rw [List.mem_singleton] at hp;subst hp
   rw [g1] at hbn;cases hbn
  ·have:lend m bl ((id,[])::r)=lend m bl r:=by
    funext b o
    simp only [lend];rw [g1]
   rw [this];exact Mem.le.refl _
 ·obtain ⟨o1,o2,o3⟩:=s.own id b n g1
  refine ⟨pre,?_,fun bl2 h2=>⟨?_,h2,.inr ⟨b,n,pre,by rw [h1];exact g1,by rw [<- g3],?_,g6,?_⟩⟩⟩
  ·intro p hp b' n' hbn o v hv
   rw [List.mem_singleton] at hp;subst hp
   simp only at hbn hv
   rw [g1] at hbn;cases hbn
   rw [cell_of_blk g2];exact pre_get g4 hv
  ·intro b' o v e
   simp only [lend]
   rw [g1]
   simp only
   rw [if_neg]
   ·exact e
   ·rintro rfl
    rcases lend_src e with h | ⟨id',pre',n',q1,q2,-⟩
    ·rw [o3 o] at h;cases h
    ·have:=s.inj id id' b' n n' g1 q2
     subst this
     exact hnd (List.mem_map.2 ⟨_,q1,rfl⟩)
  ·have:=g5.bare (bl':=noNames)
   rw [bareL,bareL_of hb] at this
   exact this.mono (lend_le s _)
  ·intro o v hv
   simp only [lend]
   rw [g1]
   simp [hv]
def lendG (L:SLS tb):List Nat->Gn tb->Option (Gn tb × List Nat)
 | [],g=>some (g,[])
 | id::r,g=>match find id g with
   | some _=>lendG L r g
   | none=>got (bareC L id) fun c=>got (lendG L r ((id,.fz c)::g)) fun p=>some (p.1,id::p.2)
theorem lendG_ok (cx:Ctx P tb) {L:SLS tb} {B:Nat} {m0:Mem} {h:Hp} {m:Mem} {bl:Names} {w:World} (s:WSim B m0 h m bl w):∀ {ids:List Nat} {g:Gn tb} {p} {r:List (Nat × List Value)} {bl1:Names},lendG L ids g=some p->
 (∀ q∈needAV L p.2,find q.1 h=some (.cells q.2))->(∀ i∈r.map (·.1),find i g≠none)->(∀ i,find i g=none->bl1 i=bl i)->(r.map (·.1)).Nodup->LentOk m bl w r->
 ∃ r' bl2,(r'.map (·.1)).Nodup/\LentOk m bl w r'/\∀ xs vs,Reps (lend m bl r) bl1 (avL (resL g xs)) vs->Reps (lend m bl r') bl2 (avL (resL p.1 xs)) vs
 | [],g,p,r,bl1,hp,_,_,_,hnd,hlo=>by
   cases hp
   exact ⟨r,bl1,hnd,hlo,fun xs vs h=>h⟩
 | id :: ids,g,p,r,bl1,hp,hn,hr,hb1,hnd,hlo=>by
   unfold lendG at hp
   split at hp
   ·exact lendG_ok cx s hp hn hr hb1 hnd hlo
   ·rename_i hid
    obtain ⟨c,hc,hp⟩:=got_e hp
    obtain ⟨p',hp',hp⟩:=got_e hp
    cases hp
    obtain ⟨l,c1,c2,c3,c4⟩:=bareC_e cx hc
    have hn0:find id h=some (.cells l):=by
     have:needAV L (id::p'.2)=(id,l)::needAV L p'.2:=by simp [needAV,c2]
     rw [this] at hn
     exact hn (id,l) (by simp)
    have hn1:∀ q∈needAV L p'.2,find q.1 h=some (.cells q.2):=by
     intro q hq
     have:needAV L (id::p'.2)=(id,l)::needAV L p'.2:=by simp [needAV,c2]
     rw [this] at hn
     exact hn q (List.mem_cons_of_mem _ hq)
    have hidr:id∉r.map (·.1):=fun hm=>hr id hm hid
    obtain ⟨pre,f1,f2⟩:=lend_frz s hn0 c3 hidr bl1 (hb1 id hid)
    have f2:=f2 (fun i=>if i=id then none else bl1 i) (fun i x hi hx=>by show (if _ then _ else _)=_;rw [if_neg hi];exact hx)
    obtain ⟨r',bl2,e1,e2,e3⟩:=lendG_ok cx s (g:=(id,.fz c)::g) (r:=(id,pre)::r) (bl1:=fun i=>if i=id then none else bl1 i) hp' hn1
     (by
       intro i hi
       rw [find_cons]
       simp only [List.map_cons,List.mem_cons] at hi
       rcases hi with rfl | hi
       ·simp
       ·split
        ·simp
        ·exact hr i hi)
     (by
       intro i hi
       rw [find_cons] at hi
       split at hi
       ·cases hi
       ·rename_i hne
        show (if _ then _ else _)=_
        rw [if_neg (Ne.symm hne)];exact hb1 i hi)
     (by rw [List.map_cons,List.nodup_cons];exact ⟨hidr,hnd⟩)
     (by
       intro q hq
       rcases List.mem_cons.1 hq with rfl | hq
       ·exact f1 _ (by simp)
       ·exact hlo q hq)
    refine ⟨r',bl2,e1,e2,fun xs vs h=>e3 xs vs ?_⟩
    exact resL_fz cx c1 hid xs _ _ _ _ f2 _ h
def elemOf (P:Program) (tb:Tb) (t:Nat):Option (tb.Ix × Nat × Nat):=got (P.underlying t) fun D=>got (isSlD D) fun E'=>got (tb.look E') fun E=>got (elemT P t (tb.sz E)) fun p=>some (E,p.1,p.2)
theorem elemOf_e {t p} (h:elemOf P tb t=some p):ElemT P t p.2.1 (tb.sz p.1) p.2.2:=by
 unfold elemOf at h
 obtain ⟨D,hD,h⟩:=got_e h
 obtain ⟨E',hE',h⟩:=got_e h
 obtain ⟨E,hE,h⟩:=got_e h
 obtain ⟨q,hq,h⟩:=got_e h
 cases h
 exact elemT_e hq
theorem QEx.sliceNil {o:Oper} {e:Env} {t y hi E sz by_ k i} (ho:o.op=.slice t y none (some hi) none) (ht:ElemT P t E sz by_) (hy:OpdOk e y (.v (.slice none 0 0))) (hh:OpdOk e hi (.v (.int k i))) (h0:i=0):QEx P o e [] (.v (.slice none 0 0)):=
 .pure fun _ _ _ m bl ac w hws _ hr=>by
  have q1:=(hy.rep hr (by simp [ho,Op.operands])).eq_v
  have q2:=(hh.rep hr (by simp [ho,Op.operands])).eq_v
  subst h0
  refine ⟨.slice none 0 0,?_,.v⟩
  simp [execOp,ho,q1,Instr.sliceAt,run_underlying_of ht.under,Instr.slice,Instr.sliceBounds,q2,Instr.sliceBound,asIntOf,run_sizeOf_of ht.sz]
def qSlN (P:Program) (tb:Tb) (L:SLS tb) (G:Gd) (t:Nat) (hi:Operand) (k:SV tb->List Nat->Option ρ):Option ρ:=
 got (elemOf P tb t) fun p=>got (opd L G hi) fun b=>got (asI b) fun q=>chk G (q.2=0) (k (.con (.slice none 0 0)) [])
theorem qSlN_ok {L:SLS tb} {G o t y hi a} {k:SV tb->List Nat->Option ρ} {r} (ho:o.op=.slice t y none (some hi) none) (ha:opd L G y=some a) (hn:isNil a=true) (h:qSlN P tb L G t hi k=some r):QOk P L G o k r:=by
 unfold qSlN at h
 obtain ⟨p,hp,h⟩:=got_e h
 obtain ⟨b,hb,h⟩:=got_e h
 obtain ⟨q,hq,h⟩:=got_e h
 obtain ⟨hc,h⟩:=chk_e h
 refine ⟨_,[],h,fun u=>?_⟩
 have h1:=opd_ok u ha
 rw [isNil_e hn] at h1
 have h2:=opd_ok u hb
 rw [asI_e hq] at h2
 exact QEx.sliceNil ho (elemOf_e hp) h1 h2 (hc u.on)
def qSlice3U (cx:Ctx P tb) (L:SLS tb) (G:Gd) (t:Nat) (y lo hi mx:Operand) (k:SV tb->List Nat->Option ρ):Option ρ:=
 got (opd L G y) fun a=>got (opd L G lo) fun b1=>got (asI b1) fun p1=>got (opd L G hi) fun b2=>got (asI b2) fun p2=>got (opd L G mx) fun b3=>got (asI b3) fun p3=>match a with
 | .row id E off len mc=>got (elemT P t (tb.sz E)) fun _=>chk G (0<=p1.2/\p1.2<=p2.2/\p2.2<=p3.2/\p3.2<=mc) (k .undef [])
 | .rw id E=>got (elemT P t (tb.sz E)) fun _=>got (arrAt L id E) fun l=>chk G (0<=p1.2/\p1.2<=p2.2/\p2.2<=p3.2/\p3.2<=l.length) (k .undef [id])
 | _=>none
theorem qSlice3U_ok {L:SLS tb} {G o t y lo hi mx} {k:SV tb->List Nat->Option ρ} {r} (ho:o.op=.slice t y (some lo) (some hi) (some mx)) (h:qSlice3U cx L G t y lo hi mx k=some r):QOk P L G o k r:=by
 unfold qSlice3U at h
 obtain ⟨a,ha,h⟩:=got_e h
 obtain ⟨b1,hb1,h⟩:=got_e h
 obtain ⟨p1,hp1,h⟩:=got_e h
 obtain ⟨b2,hb2,h⟩:=got_e h
 obtain ⟨p2,hp2,h⟩:=got_e h
 obtain ⟨b3,hb3,h⟩:=got_e h
 obtain ⟨p3,hp3,h⟩:=got_e h
 have hy:=fun u=>opd_ok (L:=L) (G:=G) u ha
 have h1:=fun u=>opd_ok (L:=L) (G:=G) u hb1
 have h2:=fun u=>opd_ok (L:=L) (G:=G) u hb2
 have h3:=fun u=>opd_ok (L:=L) (G:=G) u hb3
 rw [asI_e hp1] at h1
 rw [asI_e hp2] at h2
 rw [asI_e hp3] at h3
 split at h
 ·obtain ⟨ET,hE,h⟩:=got_e h
  obtain ⟨hc,h⟩:=chk_e h
  exact ⟨_,[],h,fun u=>QEx.slice3U (need:=[]) ho (elemT_e hE) ((hy u).r (by simp [ho,Op.operands])) (h1 u) (h2 u) (h3 u) (hc u.on)⟩
 ·obtain ⟨ET,hE,h⟩:=got_e h
  obtain ⟨l,hl,h⟩:=got_e h
  have hl:=arrAt_e hl
  obtain ⟨hc,h⟩:=chk_e h
  refine ⟨_,_,h,fun u=>?_⟩
  rw [needAV_one hl]
  exact QEx.slice3U ho (elemT_e hE) (ROk.rw (xs:=l.map (tb.el _)) (hy u) (by simp [ho,Op.operands]) (show _∈[(_,elC tb _ l)] from mem1) (elC_len cx.ok) (cx.ok _).pos) (h1 u) (h2 u) (h3 u) (by rw [List.length_map];exact hc u.on)
 ·cases h
def qSliceN (cx:Ctx P tb) (L:SLS tb) (G:Gd) (t:Nat) (y:Operand) (lo hi:Option Operand) (k:SV tb->List Nat->Option ρ):Option ρ:=match opd L G y with
 | some a=>(match isNil a with
   | true=>(match lo,hi with
     | none,some h=>qSlN P tb L G t h k
     | _,_=>none)
   | false=>qSlice cx L G t y lo hi k)
 | none=>none
theorem qSliceN_ok {L:SLS tb} {G o t y lo hi} {k:SV tb->List Nat->Option ρ} {r} (ho:o.op=.slice t y lo hi none) (h:qSliceN cx L G t y lo hi k=some r):QOk P L G o k r:=by
 unfold qSliceN at h
 split at h
 ·rename_i a ha
  split at h
  ·rename_i hn
   split at h
   ·exact qSlN_ok ho ha hn h
   ·cases h
  ·exact qSlice_ok ho h
 ·cases h
end
end
section
open Go.RowKit
variable [GlC]
theorem Sub.cptr {l l':List AV} (h:SubL l l'):Sub (.cptr l) (.cptr l'):=by
 intro m bl v r
 cases r with | cptr h1 h2 h3=>exact .cptr (h _ _ _ h1) h2 h3
section
variable {P:Program} {tb:Tb} {ρ:Type} {cx:Ctx P tb}
def capsD (cx:Ctx P tb):(l:List (PTy tb))->List (SV tb)->Option (PArgs tb l)
 | [],[]=>some ()
 | .d i::l,x::xs=>got ((cx.cd i).of x) fun a=>got (capsD cx l xs) fun b=>some (a,b)
 | .cap i::l,.cp c::xs=>got ((cx.cd i).ofC c) fun a=>got (capsD cx l xs) fun b=>some (a,b)
 | _,_=>none
theorem capsD_ok:∀ {l:List (PTy tb)} {xs a},capsD cx l xs=some a->∃ vs,ArgsR P l a vs/\SubL (avL xs) vs/\allBare vs=true
 | [],[],_,h=>⟨[],trivial,.refl _,rfl⟩
 | [],_::_,_,h=>by cases h
 | .d i::l,[],_,h=>by cases h
 | .cap i::l,[],_,h=>by cases h
 | .fn _ _::l,xs,_,h=>by cases xs <;> cases h
 | .d i::l,x::xs,ab,h=>by
   unfold capsD at h
   obtain ⟨a,ha,h⟩:=got_e h
   obtain ⟨b,hb,h⟩:=got_e h
   cases h
   obtain ⟨vs,h1,h2,h3⟩:=capsD_ok hb
   exact ⟨_::vs,⟨rfl,h1⟩,.cons ((cx.ok i).of _ _ ha) h2,bare_cons ((cx.ok i).bare a).1 h3⟩
 | .cap i::l,x::xs,ab,h=>by
   cases x with
   | cp c=>
     unfold capsD at h
     obtain ⟨a,ha,h⟩:=got_e h
     obtain ⟨b,hb,h⟩:=got_e h
     cases h
     obtain ⟨vs,h1,h2,h3⟩:=capsD_ok hb
     exact ⟨_::vs,⟨rfl,h1⟩,.cons (.cptr ((cx.ok i).ofC _ _ ha).1) h2,h3⟩
   | _=>cases h
def mkPA (cx:Ctx P tb):(l:List (PTy tb))->(ps:List tb.Ix)->List (SV tb)->Option (Tup tb ps->PArgs tb l)
 | l,[],caps=>got (capsD cx l caps) fun a=>some fun _=>a
 | .d i::l,[j],caps=>(match tb.dec j i with
   | isTrue h=>got (capsD cx l caps) fun a=>some fun x=>(h ▸ x,a)
   | isFalse _=>none)
 | .d i::l,j::j'::r,caps=>(match tb.dec j i with
   | isTrue h=>got (mkPA cx l (j'::r) caps) fun f=>some fun x=>(h ▸ x.1,f x.2)
   | isFalse _=>none)
 | _,_,_=>none
theorem mkPA_ok:∀ {l:List (PTy tb)} {ps caps f},mkPA cx l ps caps=some f->∃ vs,SubL (avL caps) vs/\allBare vs=true/\∀ a,ArgsR P l (f a) (tupAV ps a++vs)
 | l,[],caps,f,h=>by
   unfold mkPA at h
   obtain ⟨a,ha,h⟩:=got_e h
   cases h
   obtain ⟨vs,h1,h2,h3⟩:=capsD_ok ha
   exact ⟨vs,h2,h3,fun _=>h1⟩
 | .d i::l,[j],caps,f,h=>by
   unfold mkPA at h
   split at h
   ·rename_i hj _
    subst hj
    obtain ⟨a,ha,h⟩:=got_e h
    cases h
    obtain ⟨vs,h1,h2,h3⟩:=capsD_ok ha
    exact ⟨vs,h2,h3,fun x=>⟨rfl,h1⟩⟩
   ·cases h
 | .d i::l,j::j'::r,caps,f,h=>by
   unfold mkPA at h
   split at h
   ·rename_i hj _
    subst hj
    obtain ⟨a,ha,h⟩:=got_e h
    cases h
    obtain ⟨vs,h1,h2,h3⟩:=mkPA_ok ha
    exact ⟨vs,h1,h2,fun x=>⟨rfl,h3 x.2⟩⟩
   ·cases h
 | [],[j],_,_,h=>by cases h
 | [],j::j'::r,_,_,h=>by cases h
 | .cap _::_,[j],_,_,h=>by cases h
 | .cap _::_,j::j'::r,_,_,h=>by cases h
 | .fn _ _::_,[j],_,_,h=>by cases h
 | .fn _ _::_,j::j'::r,_,_,h=>by cases h
def findCon (f:Nat):List (Con P tb cx.cd)->Option (Con P tb cx.cd)
 | []=>none
 | c::r=>match Nat.beq c.fid f with | true=>some c | false=>findCon f r
theorem findCon_f {f:Nat}:∀ {l:List (Con P tb cx.cd)} {c},findCon f l=some c->c.fid=f
 | [],_,h=>by simp [findCon] at h
 | c::r,c',h=>by
   simp only [findCon] at h
   split at h
   ·rename_i hb;cases h;exact Nat.eq_of_beq_eq_true hb
   ·exact findCon_f h
def isE {α:Type}:List α->Bool
 | []=>true
 | _=>false
theorem isE_e {α:Type} {l:List α} (h:isE l=true):l=[]:=by cases l;rfl;cases h
theorem Con.ok0 (c:Con P tb cx.cd) (h:c.own=[]) {a avs r} (hr:ArgsR P c.ps a avs) (hf:c.f a=some r):FnR P c.fid avs (resAV c.rs r) []:=by
 have:=c.ok a avs r hr hf
 rw [h] at this
 obtain ⟨h1,h2⟩:=ansS_av cx.cd cx.ok c.rs r 0
 rw [h1,h2] at this;exact this
def decL (tb:Tb):DecidableEq (List tb.Ix):=@instDecidableEqList _ tb.dec
def cloG (cx:Ctx P tb) (f:Nat) (caps:List (SV tb)) (ps rs:List tb.Ix):Option (Tup tb ps->Option (Tup tb rs)):=
 got (findCon f cx.Γ) fun c=>tst (isE c.own) <| got (mkPA cx c.ps ps caps) fun m=>match decL tb c.rs rs with
 | isTrue h=>some fun a=>h ▸ c.cf (m a)
 | isFalse _=>none
theorem cloG_ok {f caps ps rs g} (h:cloG cx f caps ps rs=some g):∃ vs,SubL (avL caps) vs/\CloR tb f vs ps rs g:=by
 unfold cloG at h
 obtain ⟨c,hc,h⟩:=got_e h
 obtain ⟨h1,h⟩:=tst_e h
 obtain ⟨m,hm,h⟩:=got_e h
 obtain ⟨vs,g1,g2,g3⟩:=mkPA_ok hm
 split at h
 ·rename_i hrs _
  cases h
  refine ⟨vs,g1,?_⟩
  have hP:=cx.hP
  refine ⟨?_,g2,?_⟩
  ·rw [hP];rw [<- findCon_f hc];exact c.call
  ·intro a r hr
   rw [hP,<- findCon_f hc]
   subst hrs
   exact c.ok0 (isE_e h1) (g3 a) ((c.cf_eq _).symm.trans hr)
 ·cases h
def argD (cx:Ctx P tb) (x:SV tb):(p:PTy tb)->Option p.den
 | .d i=>(cx.cd i).of x
 | .cap i=>match x with | .cp l=>(cx.cd i).ofC l | _=>none
 | .fn ps rs=>match x with
   | .cl ps' rs' g _ _ _=>(match decL tb ps' ps,decL tb rs' rs with
     | isTrue h,isTrue h'=>some (h ▸ h' ▸ g)
     | _,_=>none)
   | .fn f caps=>cloG cx f caps ps rs
   | _=>none
theorem argD_ok {x:SV tb} {p a} (h:argD cx x p=some a):∃ v,ArgR P p a v/\Sub x.av v/\v.isBare=true:=by
 cases p with
 | d i=>exact ⟨_,rfl,(cx.ok i).of _ _ h,((cx.ok i).bare a).1⟩
 | cap i=>
   cases x with
   | cp l=>exact ⟨_,rfl,.cptr ((cx.ok i).ofC _ _ h).1,rfl⟩
   | _=>cases h
 | fn ps rs=>
   cases x with
   | cl ps' rs' g f caps hc=>
     unfold argD at h
     simp only at h
     split at h
     ·rename_i h1 h2 _ _
      subst h1 h2
      cases h
      exact ⟨_,⟨f,caps,rfl,hc⟩,.refl _,hc.2.1⟩
     ·cases h
   | fn f caps=>
     obtain ⟨vs,h1,h2⟩:=cloG_ok (h:cloG cx f caps ps rs=some a)
     exact ⟨_,⟨f,vs,rfl,h2⟩,.clo h1,h2.2.1⟩
   | _=>cases h
def argsD (cx:Ctx P tb):(l:List (PTy tb))->List (SV tb)->Option (PArgs tb l)
 | [],[]=>some ()
 | p::l,x::xs=>got (argD cx x p) fun a=>got (argsD cx l xs) fun b=>some (a,b)
 | _,_=>none
theorem argsD_ok:∀ {l:List (PTy tb)} {xs a},argsD cx l xs=some a->∃ vs,ArgsR P l a vs/\SubL (avL xs) vs/\allBare vs=true
 | [],[],_,h=>⟨[],trivial,.refl _,rfl⟩
 | [],_::_,_,h=>by cases h
 | p::l,[],_,h=>by cases h
 | p::l,x::xs,ab,h=>by
   unfold argsD at h
   obtain ⟨a,ha,h⟩:=got_e h
   obtain ⟨b,hb,h⟩:=got_e h
   cases h
   obtain ⟨v,h0,h4,h5⟩:=argD_ok ha
   obtain ⟨vs,h1,h2,h3⟩:=argsD_ok hb
   exact ⟨v::vs,⟨h0,h1⟩,.cons h4 h2,bare_cons h5 h3⟩
def tupC:(i:tb.Ix)->(l:List tb.Ix)->tb.T i->Tup tb l->Tup tb (i::l)
 | _,[],a,_=>a
 | _,_::_,a,b=>(a,b)
theorem tupC_av {i:tb.Ix} {l:List tb.Ix} {a:tb.T i} {b:Tup tb l}:tupAV (i::l) (tupC i l a b)=tb.el i a::tupAV l b:=by
 cases l <;> rfl
def tupD (cx:Ctx P tb):(l:List tb.Ix)->List (SV tb)->Option (Tup tb l)
 | [],xs=>tst (isE xs) (some ())
 | i::l,xs=>match xs with
   | []=>none
   | x::xs=>got ((cx.cd i).of x) fun a=>got (tupD cx l xs) fun b=>some (tupC i l a b)
theorem tupD_ok:∀ {l:List tb.Ix} {xs a},tupD cx l xs=some a->SubL (avL xs) (tupAV l a)/\allBare (tupAV l a)=true
 | [],xs,_,h=>by
   obtain ⟨h1,h⟩:=tst_e h
   rw [isE_e h1]
   exact ⟨.refl _,rfl⟩
 | i::l,[],_,h=>by cases h
 | i::l,x::xs,ab,h=>by
   obtain ⟨a,ha,h⟩:=got_e (show got ((cx.cd i).of x) _=some ab from h)
   obtain ⟨b,hb,h⟩:=got_e h
   cases h
   obtain ⟨h1,h2⟩:=tupD_ok hb
   rw [tupC_av]
   exact ⟨.cons ((cx.ok i).of _ _ ha) h1,bare_cons ((cx.ok i).bare a).1 h2⟩
def tupInh (cx:Ctx P tb):(l:List tb.Ix)->Tup tb l
 | []=>()
 | [i]=>(cx.cd i).inh
 | i::j::r=>((cx.cd i).inh,tupInh cx (j::r))
theorem tupAV_bare (cx:Ctx P tb):∀ (l:List tb.Ix) (r:Tup tb l),allBare (tupAV l r)=true
 | [],_=>rfl
 | [i],x=>bare_cons ((cx.ok i).bare x).1 rfl
 | i::j::l,x=>bare_cons ((cx.ok i).bare x.1).1 (tupAV_bare cx (j::l) x.2)
theorem resAV_bare (cx:Ctx P tb) (l:List tb.Ix) (r:Tup tb l):(resAV l r).isBare=true:=by
 have:=tupAV_bare cx l r
 unfold resAV
 cases l with
 | nil=>rfl
 | cons i l=>
   cases l with
   | nil=>exact ((cx.ok i).bare r).1
   | cons j l=>cases l <;> exact this
def ansV (cx:Ctx P tb) (rs:List tb.Ix) (r:Tup tb rs):SV tb:=(ansS tb cx.cd [] rs r 0).1
def allFlat (cx:Ctx P tb):List tb.Ix->Bool
 | []=>true
 | i::l=>match (cx.cd i).flat with | true=>allFlat cx l | false=>false
theorem tupAV_flat {cx:Ctx P tb}:∀ {l:List tb.Ix} (r:Tup tb l),allFlat cx l=true->flatL (tupAV l r)=true
 | [],_,_=>rfl
 | [i],x,h=>by
   unfold allFlat at h
   split at h
   ·simp [tupAV,flatL,(cx.ok i).flat ‹_› x]
   ·cases h
 | i :: j::l,x,h=>by
   unfold allFlat at h
   split at h
   ·have:=tupAV_flat (l:=j::l) x.2 h
    simp [tupAV,flatL,(cx.ok i).flat ‹_› x.1] at this ⊢
    exact this
   ·cases h
theorem resAV_flat {cx:Ctx P tb} {l:List tb.Ix} (r:Tup tb l) (h:allFlat cx l=true):(resAV l r).flat=true:=by
 have:=tupAV_flat r h
 unfold resAV
 cases l with
 | nil=>rfl
 | cons i l=>
   cases l with
   | nil=>simpa [tupAV,flatL,tupleOf] using this
   | cons j l=>cases l <;> exact this
def lent (cx:Ctx P tb) (L:SLS tb) (rs:List tb.Ix) (xs:List (SV tb)) (k:List (SV tb)->List Nat->Option ρ):Option ρ:=match nmsL xs [] with
 | []=>k xs []
 | id::r=>got (lendG L (id::r) []) fun p=>tst (allFlat cx rs) <| k (resL p.1 xs) p.2
def findHnd (f:Nat):List (Hnd P tb)->Option (Hnd P tb)
 | []=>none
 | c::r=>match Nat.beq c.fid f with | true=>some c | false=>findHnd f r
theorem findHnd_f {f:Nat}:∀ {l:List (Hnd P tb)} {c},findHnd f l=some c->c.fid=f
 | [],_,h=>by simp [findHnd] at h
 | c::r,c',h=>by
   simp only [findHnd] at h
   split at h
   ·rename_i hb;cases h;exact Nat.eq_of_beq_eq_true hb
   ·exact findHnd_f h
def qHand (L:SLS tb) (h:Hnd P tb) (xs:List (SV tb)) (k:SV tb->List Nat->Option ρ):Option ρ:=got (h.f xs) fun y=>k y []
def qCall (cx:Ctx P tb) (L:SLS tb) (G:Gd) (y:Operand) (args:Array Operand) (k:SV tb->List Nat->Option ρ):Option ρ:=
 got (opd L G y) fun c=>got (opdsS L G args.toList) fun xs=>match c with
 | .fn f caps=>(match findHnd f cx.hnd with
 | some h=>qHand L h (xs++caps) k
 | none=>got (findCon f cx.Γ) fun c=>tst (isE c.own) <| lent cx L c.rs (xs++caps) fun ys need=>got (argsD cx c.ps ys) fun a=>bnd G (tupInh cx c.rs) (c.cf a) fun r=>k (ansV cx c.rs r) need)
 | .cl ps rs g _ _ _=>lent cx L rs xs fun ys need=>got (tupD cx ps ys) fun a=>bnd G (tupInh cx rs) (g a) fun r=>k (ansV cx rs r) need
 | _=>none
theorem lent_e {L:SLS tb} {rs xs} {k:List (SV tb)->List Nat->Option ρ} {r} (h:lent cx L rs xs k=some r):
 ∃ ys need,k ys need=some r/\((ys=xs/\need=[])\/(allFlat cx rs=true/\∃ g,(∃ ids,lendG L ids []=some (g,need))/\ys=resL g xs)):=by
 unfold lent at h
 split at h
 ·exact ⟨_,_,h,.inl ⟨rfl,rfl⟩⟩
 ·obtain ⟨p,hp,h⟩:=got_e h
  obtain ⟨hf,h⟩:=tst_e h
  exact ⟨_,_,h,.inr ⟨hf,p.1,⟨_,hp⟩,rfl⟩⟩
theorem call_ok {L:SLS tb} {o:Oper} {fn:Nat} {rs:List tb.Ix} {x:Tup tb rs} {xs ys:List (SV tb)} {need vs} (cx:Ctx P tb)
 (hk:(ys=xs/\need=[])\/(allFlat cx rs=true/\∃ g,(∃ ids,lendG L ids []=some (g,need))/\ys=resL g xs))
 (hg:SubL (avL ys) vs) (hbare:allBare vs=true) (hf:FnR P fn vs (resAV rs x) [])
 (hrun:∀ {m bl a} (w:World),Reads o L.E m bl a->∃ ws:List Value,(execOp a.eval o).run P w=.ok (.enter fn ws.toArray) w/\Reps m bl (avL xs) ws)
 (hres:resL ([]:Gn tb) xs=xs):QEx P o L.E (needAV L need) (resAV rs x):=by
 rcases hk with ⟨rfl,rfl⟩ | ⟨hfl,g,⟨ids,hl⟩,rfl⟩
 ·refine QEx.enter (fn:=fn) (ys:=vs) (fun m bl ac w hrd=>?_) hf (resAV_bare cx _ _)
  obtain ⟨ws,h1,h2⟩:=hrun w hrd
  refine ⟨ws,h1,?_⟩
  have:=(hg _ _ _ h2).bare (bl':=noNames)
  rwa [bareL,bareL_of hbare] at this
 ·refine QEx.enterL (fn:=fn) (ys:=vs) (fun B m0 h m bl ac w hws hn hrd=>?_) hf (resAV_flat x hfl)
  obtain ⟨ws,h1,h2⟩:=hrun w hrd
  obtain ⟨r',bl2,e1,e2,e3⟩:=lendG_ok cx hws (ids:=ids) (g:=[]) (r:=[]) (bl1:=bl) hl hn (by simp) (fun i _=>rfl) .nil (by intro p hp;cases hp)
  refine ⟨r',ws,e1,e2,h1,?_⟩
  have h3:=e3 xs ws (by rw [hres];exact h2)
  have:=(hg _ _ _ h3).bare (bl':=noNames)
  rwa [bareL,bareL_of hbare] at this
theorem qCall_ok {L:SLS tb} {G o y args tys} {k:SV tb->List Nat->Option ρ} {r} (ho:o.op=.call { callee:=.value y,args,argTypes:=tys }) (h:qCall cx L G y args k=some r):QOk P L G o k r:=by
 unfold qCall at h
 obtain ⟨c,hc,h⟩:=got_e h
 obtain ⟨xs,hxs,h⟩:=got_e h
 have hy:=fun u=>opd_ok (L:=L) (G:=G) u hc
 split at h
 ·rename_i f caps _
  split at h
  ·rename_i hh hf
   obtain ⟨x,hx,h⟩:=got_e (show got (hh.f (xs++caps)) _=some r from h)
   obtain ⟨g1,g2,g3⟩:=hh.ok _ _ hx
   refine ⟨_,[],h,fun u=>?_⟩
   refine QEx.enter (fn:=hh.fid) (ys:=avL (xs++caps)) (fun m bl ac w hrd=>?_) g1 g3
   obtain ⟨ws,hrun,hreps⟩:=run_enter (caps:=avL caps) ho (by have:=hh.call;rwa [findHnd_f hf] at this) (hy u) (opdsS_ok u hxs) w hrd
   rw [findHnd_f hf]
   refine ⟨ws,hrun,?_⟩
   rw [<- avL_append] at hreps
   have:=hreps.bare (bl':=noNames)
   rwa [bareL,bareL_of g2] at this
  obtain ⟨c,hc,h⟩:=got_e h
  obtain ⟨h1,h⟩:=tst_e h
  obtain ⟨ys,need,h,hk⟩:=lent_e h
  obtain ⟨a,ha,h⟩:=got_e h
  obtain ⟨vs,g1,g2,g3⟩:=argsD_ok ha
  obtain ⟨x,hx,h⟩:=bnd_e h
  refine ⟨_,need,h,fun u=>?_⟩
  unfold ansV
  rw [(ansS_av cx.cd cx.ok c.rs x 0).1]
  have hf:=c.ok0 (isE_e h1) g1 ((c.cf_eq a).symm.trans (hx u.on))
  refine call_ok (fn:=c.fid) cx hk g2 g3 hf (fun {m bl ac} w hrd=>?_) (resL_keep (hasL_all (q:=keepQ []) (fun _=>rfl) _))
  obtain ⟨ws,hrun,hreps⟩:=run_enter (caps:=avL caps) ho (by have:=c.call;rwa [findCon_f hc] at this) (hy u) (opdsS_ok u hxs) w hrd
  rw [findCon_f hc]
  exact ⟨ws,hrun,by rw [avL_append];exact hreps⟩
 ·rename_i ps rs g f caps hcl _
  obtain ⟨ys,need,h,hk⟩:=lent_e h
  obtain ⟨a,ha,h⟩:=got_e h
  obtain ⟨g2,g3⟩:=tupD_ok ha
  obtain ⟨x,hx,h⟩:=bnd_e h
  refine ⟨_,need,h,fun u=>?_⟩
  unfold ansV
  rw [(ansS_av cx.cd cx.ok rs x 0).1]
  obtain ⟨q1,q2,q3⟩:=hcl
  rw [cx.hP] at q1 q3
  have hf:=q3 a x (hx u.on)
  have hbc:allBare (tupAV ps a++caps)=true:=by show cleanL _ _=true;rw [cleanL_append];rw [show cleanL _ (tupAV ps a)=true from g3,show cleanL _ caps=true from q2];rfl
  rcases hk with ⟨rfl,rfl⟩ | ⟨hfl,g',⟨ids,hl⟩,rfl⟩
  ·refine QEx.enter (fn:=f) (ys:=tupAV ps a++caps) (fun m bl ac w hrd=>?_) hf (resAV_bare cx _ _)
   obtain ⟨ws,hrun,hreps⟩:=run_enter (caps:=caps) ho q1 (hy u) (opdsS_ok u hxs) w hrd
   refine ⟨ws,hrun,?_⟩
   have h4:SubL (avL ys++caps) (tupAV ps a++caps):=g2.append (.refl _)
   have:=(h4 _ _ _ hreps).bare (bl':=noNames)
   rwa [bareL,bareL_of hbc] at this
  ·refine QEx.enterL (fn:=f) (ys:=tupAV ps a++caps) (fun B m0 h m bl ac w hws hn hrd=>?_) hf (resAV_flat x hfl)
   obtain ⟨ws,hrun,hreps⟩:=run_enter (caps:=caps) ho q1 (hy u) (opdsS_ok u hxs) w hrd
   obtain ⟨r',bl2,e1,e2,e3⟩:=lendG_ok cx hws (ids:=ids) (g:=[]) (r:=[]) (bl1:=bl) hl hn (by simp) (fun i _=>rfl) .nil (by intro p hp;cases hp)
   refine ⟨r',ws,e1,e2,hrun,?_⟩
   obtain ⟨w1,w2,rfl,k1,k2⟩:=Reps.split hreps
   have h3:=e3 xs w1 (by rw [resL_keep (hasL_all (q:=keepQ []) (fun _=>rfl) _)];exact k1)
   have h5:=(g2 _ _ _ h3).bare (bl':=noNames)
   rw [bareL,bareL_of g3] at h5
   have h6:=(k2.mono (lend_le hws r')).bare (bl':=noNames)
   rw [bareL,bareL_of q2] at h6
   exact h5.append h6
 ·cases h
end
end
section
open Go.RowKit
variable [GlC]
section
variable {P:Program} {o:Oper} {e:Env}
def isIfD:TypeDesc->Bool
 | .interface _=>true
 | _=>false
theorem isIfD_e {d} (h:isIfD d=true):∃ ms,d=.interface ms:=by unfold isIfD at h;split at h;exact ⟨_,rfl⟩;cases h
theorem QEx.mkIfc {t y x d} (ho:o.op=.makeInterface t y) (ht:P.underlying t=some d) (hd:isIfD d=false) (hy:OpdOk e y x):QEx P o e [] (.ifc t x):=
 .pure fun _ _ _ m bl ac w _ _ hr=>by
  have h1:=hy.rep hr (by simp [ho,Op.operands])
  refine ⟨.iface t (ac.eval y),?_,.ifc h1⟩
  cases d <;> first | (cases hd;done) | simp [execOp,ho,Instr.makeInterface,run_underlying_of ht]
theorem run_equalIn_ifnil {t ms} (ht:P.underlying t=some (.interface ms)) (d t':Nat) (v:Value) (w:World):(Op.equalIn (d+1) t (.iface t' v) .nilIface).run P w=.ok false w:=by
 simp [Op.equalIn,run_underlying_of ht]
theorem run_equalIn_nilnil {t ms} (ht:P.underlying t=some (.interface ms)) (d:Nat) (w:World):(Op.equalIn (d+1) t .nilIface .nilIface).run P w=.ok true w:=by
 simp [Op.equalIn,run_underlying_of ht]
theorem run_eql_if (t:TypeId) (x y:Value) (w:World) (hx:(∃ t' v,x=.iface t' v)\/x=.nilIface) (hy:y=.nilIface):(binOp .eql t x y).run P w=((Op.equalIn 10000 t x y).run P w).andThen fun b w'=>.ok (.bool b) w':=by
 subst hy
 rcases hx with ⟨t',v,rfl⟩ | rfl <;> simp [binOp,Op.equal,Op.maxDepth]
theorem run_neq_if (t:TypeId) (x y:Value) (w:World) (hx:(∃ t' v,x=.iface t' v)\/x=.nilIface) (hy:y=.nilIface):(binOp .neq t x y).run P w=((Op.equalIn 10000 t x y).run P w).andThen fun b w'=>.ok (.bool (!b)) w':=by
 subst hy
 rcases hx with ⟨t',v,rfl⟩ | rfl <;> simp [binOp,Op.equal,Op.maxDepth]
theorem QEx.ifNil {t y yt ms x b} (neg:Bool) (ho:o.op=.binOp (if neg then .neq else .eql) t y (.const .nilIface) yt) (ht:P.underlying t=some (.interface ms)) (hy:OpdOk e y x)
 (hx:(∃ t' x',x=.ifc t' x'/\b=false)\/(x=.v .nilIface/\b=true)):QEx P o e [] (.v (.bool (b != neg))):=
 .pure fun _ _ _ m bl ac w _ _ hr=>by
  have h1:=hy.rep hr (by simp [ho,Op.operands])
  have hz:ac.eval (.const .nilIface)=.nilIface:=rfl
  have key:∀ v,ac.eval y=v->((∃ t' v',v=.iface t' v'/\b=false)\/(v=.nilIface/\b=true))->(execOp ac.eval o).run P w=.ok (.value (.bool (b != neg))) w:=by
   intro v hv hc
   have hg:∀ op,(eqGuard op t y (.const .nilIface) v .nilIface).run P w=.ok () w:=by
    intro op
    rcases hc with ⟨t',v',rfl,-⟩ | ⟨rfl,-⟩ <;> cases op <;> simp [eqGuard]
   have heq:(Op.equalIn 10000 t v .nilIface).run P w=.ok b w:=by
    rcases hc with ⟨t',v',rfl,rfl⟩ | ⟨rfl,rfl⟩
    ·exact run_equalIn_ifnil ht 9999 t' v' w
    ·exact run_equalIn_nilnil ht 9999 w
   have hs:(∃ t' v',v=.iface t' v')\/v=.nilIface:=by
    rcases hc with ⟨t',v',rfl,-⟩ | ⟨rfl,-⟩
    ·exact .inl ⟨_,_,rfl⟩
    ·exact .inr rfl
   cases neg with
   | false=>
     have h4:=run_eql_if (P:=P) t v .nilIface w hs rfl
     rw [heq] at h4
     simp only [Result.andThen_ok] at h4
     simp [execOp,ho,hv,hz,Sem.run_bind,hg,Result.andThen_ok,h4,Sem.run_pure]
   | true=>
     have h4:=run_neq_if (P:=P) t v .nilIface w hs rfl
     rw [heq] at h4
     simp only [Result.andThen_ok] at h4
     simp [execOp,ho,hv,hz,Sem.run_bind,hg,Result.andThen_ok,h4,Sem.run_pure]
  rcases hx with ⟨t',x',rfl,hb⟩ | ⟨rfl,hb⟩
  ·generalize hv:ac.eval y=v at h1
   cases h1 with
   | ifc h2=>exact ⟨_,key _ hv (.inl ⟨_,_,rfl,hb⟩),.v⟩
  ·have:=h1.eq_v
   exact ⟨_,key _ this (.inr ⟨rfl,hb⟩),.v⟩
theorem QEx.ifcOut {y xt t x d} (ho:o.op=.typeAssert y xt t true) (ht:P.underlying t=some d) (hd:isIfD d=false) (hy:OpdOk e y (.ifc t x)):QEx P o e [] (.tup [x,.v (.bool true)]):=
 .pure fun _ _ _ m bl ac w _ _ hr=>by
  have h1:=hy.rep hr (by simp [ho,Op.operands])
  generalize hv:ac.eval y=v at h1
  cases h1 with
  | ifc h2=>
    rename_i v'
    refine ⟨.tuple #[v',.bool true],?_,.tup (.cons h2 (.cons .v .nil))⟩
    cases d <;> first | (cases hd;done) | simp [execOp,ho,hv,Instr.typeAssert,run_underlying_of ht]
theorem QEx.arrAt {t y n E sz c l} (ho:o.op=.sliceToArrayPointer t y) (ht:P.underlying t=some (.array n E)) (hy:OpdOk e y (.sl c sz l)) (hn:n<=l.length) (h0:0<n) (hs:0<sz):QEx P o e [] (.cptr ((l.take n).flatMap AV.cells)):=
 .pure fun _ _ _ m bl ac w _ _ hr=>by
  have h1:=hy.rep hr (by simp [ho,Op.operands])
  generalize hv:ac.eval y=v at h1
  cases h1 with
  | slnil=>simp at hn;omega
  | sl g1 g2 g3 g4 g5 g6 g7=>
    rename_i a cap cs
    have hcl:(l.flatMap AV.cells).length=l.length*sz:=flat_len g1
    have hlen:=g2.length
    have hpos:0<cs.length:=by
     rw [<- hlen,hcl];exact Nat.mul_pos (by omega) hs
    have hsp:=g4 hpos
    have hft:(l.take n).flatMap AV.cells=(l.flatMap AV.cells).take (n*sz):=(flat_take n g1).symm
    refine ⟨.pointer (some a),?_,?_⟩
    ·simp [execOp,ho,hv,Instr.arrayAt,run_underlying_of ht,Nat.not_lt.2 hn]
    ·obtain ⟨b,off,sp⟩:=a
     simp only at hsp;subst hsp
     rw [hft]
     refine .cptr (g2.take _) (fun c hc=>g3 c (List.mem_of_mem_take hc)) (fun j v e=>g5 j v (take_get e))
end
section
variable {P:Program} {tb:Tb} {ρ:Type} {cx:Ctx P tb}
def isIfT (P:Program) (t:Nat):Bool:=match P.underlying t with | some d=>isIfD d | none=>false
theorem isIfT_e {t} (h:isIfT P t=true):∃ ms,P.underlying t=some (.interface ms):=by
 unfold isIfT at h
 split at h
 ·obtain ⟨ms,rfl⟩:=isIfD_e h;exact ⟨ms,‹_›⟩
 ·cases h
def noIfT (P:Program) (t:Nat):Bool:=match P.underlying t with | some d => !isIfD d | none=>false
theorem noIfT_e {t} (h:noIfT P t=true):∃ d,P.underlying t=some d/\isIfD d=false:=by
 unfold noIfT at h
 split at h
 ·exact ⟨_,‹_›,by simpa using h⟩
 ·cases h
def qMkI (P:Program) (L:SLS tb) (G:Gd) (t:Nat) (y:Operand) (k:SV tb->List Nat->Option ρ):Option ρ:=
 got (opd L G y) fun a=>tst (noIfT P t) <| k (.ifc t a) []
theorem qMkI_ok {L:SLS tb} {G o t y} {k:SV tb->List Nat->Option ρ} {r} (ho:o.op=.makeInterface t y) (h:qMkI P L G t y k=some r):QOk P L G o k r:=by
 unfold qMkI at h
 obtain ⟨a,ha,h⟩:=got_e h
 obtain ⟨h1,h⟩:=tst_e h
 obtain ⟨d,hd,hi⟩:=noIfT_e h1
 exact ⟨_,[],h,fun u=>QEx.mkIfc ho hd hi (opd_ok u ha)⟩
def qOut (P:Program) (L:SLS tb) (G:Gd) (y:Operand) (t:Nat) (k:SV tb->List Nat->Option ρ):Option ρ:=
 got (opd L G y) fun a=>match a with
 | .ifc t' x=>tst (Nat.beq t' t) <| tst (noIfT P t) <| k (.tup [x,.con (.bool true)]) []
 | _=>none
theorem qOut_ok {L:SLS tb} {G o y xt t} {k:SV tb->List Nat->Option ρ} {r} (ho:o.op=.typeAssert y xt t true) (h:qOut P L G y t k=some r):QOk P L G o k r:=by
 unfold qOut at h
 obtain ⟨a,ha,h⟩:=got_e h
 have hy:=fun u=>opd_ok (L:=L) (G:=G) u ha
 cases a with
 | ifc t' x=>
   obtain ⟨h1,h⟩:=tst_e (show tst (Nat.beq t' t) _=some r from h)
   obtain ⟨h2,h⟩:=tst_e h
   have:=Nat.eq_of_beq_eq_true h1
   rw [<- this] at ho h2
   obtain ⟨d,hd,hi⟩:=noIfT_e h2
   exact ⟨_,[],h,fun u=>QEx.ifcOut ho hd hi (hy u)⟩
 | _=>cases h
def isNilI:Operand->Bool
 | .const .nilIface=>true
 | _=>false
theorem isNilI_e {z:Operand} (h:isNilI z=true):z=.const .nilIface:=by
 unfold isNilI at h
 split at h
 ·rfl
 ·cases h
def ifNilS:SV tb->Option Bool
 | .ifc _ _=>some false
 | .con .nilIface=>some true
 | _=>none
theorem ifNilS_e {x:SV tb} {b} (h:ifNilS x=some b):(∃ t' x',x.av=.ifc t' x'/\b=false)\/(x.av=.v .nilIface/\b=true):=by
 unfold ifNilS at h
 split at h
 ·cases h;exact .inl ⟨_,_,rfl,rfl⟩
 ·cases h;exact .inr ⟨rfl,rfl⟩
 ·cases h
def qNilI (P:Program) (L:SLS tb) (G:Gd) (neg:Bool) (t:Nat) (y:Operand) (k:SV tb->List Nat->Option ρ):Option ρ:=
 got (opd L G y) fun a=>got (ifNilS a) fun b=>tst (isIfT P t) <| k (.con (.bool (b != neg))) []
theorem qNilI_ok {L:SLS tb} {G o neg t y yt} {k:SV tb->List Nat->Option ρ} {r} (ho:o.op=.binOp (if neg then .neq else .eql) t y (.const .nilIface) yt) (h:qNilI P L G neg t y k=some r):QOk P L G o k r:=by
 unfold qNilI at h
 obtain ⟨a,ha,h⟩:=got_e h
 obtain ⟨b,hb,h⟩:=got_e h
 obtain ⟨h1,h⟩:=tst_e h
 obtain ⟨ms,hms⟩:=isIfT_e h1
 exact ⟨_,[],h,fun u=>QEx.ifNil neg ho hms (opd_ok u ha) (ifNilS_e hb)⟩
def arrK (cx:Ctx P tb) (E:tb.Ix) (l:List (tb.T E)):Nat->Nat->List (SV tb)->(List (SV tb)->Option ρ)->Option ρ
 | _,0,a,k=>k a
 | i,n+1,a,k=>Let (ixd (cx.cd E).inh l (i:Int)) fun x=>arrK cx E l (i+1) n (a++(cx.cd E).cs x) k
theorem arrK_e {E:tb.Ix} {l:List (tb.T E)}:∀ {n i:Nat} {a:List (SV tb)} {k:List (SV tb)->Option ρ} {r},arrK cx E l i n a k=some r->i+n<=l.length->avL a=((l.take i).map (tb.el E)).flatMap AV.cells->
 ∃ b,k b=some r/\avL b=((l.take (i+n)).map (tb.el E)).flatMap AV.cells
 | 0,i,a,k,r,h,_,ha=>⟨a,h,ha⟩
 | n + 1,i,a,k,r,h,hl,ha=>by
   have h:=(show arrK cx E l (i+1) n (a++(cx.cd E).cs (ixd (cx.cd E).inh l (i:Int))) k=some r from h)
   have hlt:i<l.length:=by omega
   have hg:=ixd_get (d:=(cx.cd E).inh) (l:=l) (i:=(i:Int)) ⟨by omega,by omega⟩
   rw [Int.toNat_natCast] at hg
   obtain ⟨b,h1,h2⟩:=arrK_e h (by omega) (by
    rw [avL_append,ha,(cx.ok E).cs,List.take_succ,hg]
    simp)
   exact ⟨b,h1,by rw [h2,show i+1+n=i+(n+1) by omega]⟩
def qArr (cx:Ctx P tb) (L:SLS tb) (G:Gd) (t:Nat) (y:Operand) (k:SV tb->List Nat->Option ρ):Option ρ:=
 got (opd L G y) fun a=>got (P.underlying t) fun D=>got (isArD D) fun p=>match a with
 | .sl _ E l=>tst (Nat.ble 1 p.1) <| chk G (p.1<=l.length) <| arrK cx E l 0 p.1 [] fun b=>k (.cp b) []
 | _=>none
theorem qArr_ok {L:SLS tb} {G o t y} {k:SV tb->List Nat->Option ρ} {r} (ho:o.op=.sliceToArrayPointer t y) (h:qArr cx L G t y k=some r) (hG:G=[]):QOk P L G o k r:=by
 subst hG
 unfold qArr at h
 obtain ⟨a,ha,h⟩:=got_e h
 obtain ⟨D,hD,h⟩:=got_e h
 obtain ⟨p,hp,h⟩:=got_e h
 rw [isArD_e hp] at hD
 have hy:=fun u=>opd_ok (L:=L) (G:=[]) u ha
 cases a with
 | sl c E l=>
   obtain ⟨h1,h⟩:=tst_e (show tst (Nat.ble 1 p.1) _=some r from h)
   obtain ⟨hc,h⟩:=chk_e h
   have hc:=hc rfl
   obtain ⟨b,h,hb⟩:=arrK_e h (by omega) (by simp [avL])
   refine ⟨_,[],h,fun u=>?_⟩
   have:=QEx.arrAt ho hD (hy u) (by rw [List.length_map];exact hc) (Nat.le_of_ble_eq_true h1) (cx.ok E).pos
   rw [<- List.map_take] at this
   simp only [SV.av]
   rw [hb,Nat.zero_add];exact this
 | _=>cases h
theorem QEx.sliceC {o:Oper} {e:Env} {t y E n sz} {l:List AV} (ho:o.op=.slice t y none none none) (hT:P.underlying t=some (.array n E)) (hs:tSz P E=some sz) (hy:OpdOk e y (.cptr (l.flatMap AV.cells)))
 (hl:l.length=n) (hc:∀ x∈l,x.cells.length=sz) (h0:0<n):QEx P o e [] (.sl false sz l):=
 .pure fun _ _ _ m bl ac w _ _ hr=>by
  have h1:=hy.rep hr (by simp [ho,Op.operands])
  generalize hv:ac.eval y=v at h1
  cases h1 with
  | cptr g1 g2 g3=>
    rename_i b off cs
    have e1:(Instr.sliceBounds false n n none none none).run P w=.ok (0,n,n) w:=by simp [Instr.sliceBounds]
    refine ⟨.slice (some ⟨b,off,none⟩) n n,?_,?_⟩
    ·simp only [execOp,ho,hv,Instr.sliceAt,Sem.run_bind,run_underlying_of hT,Result.andThen_ok,Instr.sureAddr,Option.map_none,e1,run_sizeOf_of hs,Sem.run_pure]
     simp [Nat.ne_of_gt h0,addr_add]
    ·subst hl
     exact .sl hc g1 g2 (fun _=>rfl) g3 (Nat.le_refl _) (fun h=>by cases h)
def chopC (cx:Ctx P tb) (E:tb.Ix):Nat->List (SV tb)->Option (List (tb.T E))
 | 0,l=>match l with | []=>some [] | _::_=>none
 | n+1,l=>got ((cx.cd E).ofC (l.take (tb.sz E))) fun z=>got (chopC cx E n (l.drop (tb.sz E))) fun r=>some (z::r)
theorem chopC_ok {E:tb.Ix}:∀ {n:Nat} {l:List (SV tb)} {r},chopC cx E n l=some r->SubL (avL l) (elC tb E r)/\r.length=n
 | 0,l,r,h=>by
   cases l with
   | nil=>cases h;exact ⟨.refl _,rfl⟩
   | cons=>cases h
 | n+1,l,r,h=>by
   obtain ⟨z,hz,h⟩:=got_e (show got ((cx.cd E).ofC (l.take (tb.sz E))) _=some r from h)
   obtain ⟨r',hr,h⟩:=got_e h
   cases h
   have h1:=((cx.ok E).ofC _ _ hz).1
   obtain ⟨g1,g2⟩:=chopC_ok hr
   have h2:=h1.append g1
   rw [<- avL_append,List.take_append_drop] at h2
   exact ⟨h2,by rw [List.length_cons,g2]⟩
def qArrS (cx:Ctx P tb) (L:SLS tb) (G:Gd) (t:Nat) (y:Operand) (k:SV tb->List Nat->Option ρ):Option ρ:=
 got (opd L G y) fun a=>got (P.underlying t) fun D=>got (isArD D) fun p=>got (tSz P p.2) fun n=>got (tb.look p.2) fun E=>match a with
 | .cp l=>tst (Nat.beq n (tb.sz E)) <| tst (Nat.ble 1 p.1) <| got (chopC cx E p.1 l) fun r=>k (.sl false E r) []
 | _=>none
theorem qArrS_ok {L:SLS tb} {G o t y} {k:SV tb->List Nat->Option ρ} {r} (ho:o.op=.slice t y none none none) (h:qArrS cx L G t y k=some r):QOk P L G o k r:=by
 unfold qArrS at h
 obtain ⟨a,ha,h⟩:=got_e h
 obtain ⟨D,hD,h⟩:=got_e h
 obtain ⟨p,hp,h⟩:=got_e h
 rw [isArD_e hp] at hD
 obtain ⟨n,hn,h⟩:=got_e h
 obtain ⟨E,hE,h⟩:=got_e h
 have hy:=fun u=>opd_ok (L:=L) (G:=G) u ha
 cases a with
 | cp l=>
   have g1:=tst_e h
   have g2:=tst_e g1.2
   obtain ⟨q,hq,g3⟩:=got_e g2.2
   obtain ⟨c1,c2⟩:=chopC_ok hq
   refine ⟨_,[],g3,fun u=>?_⟩
   rw [Nat.eq_of_beq_eq_true g1.1] at hn
   have hy2:OpdOk L.E y (.cptr ((q.map (tb.el E)).flatMap AV.cells)):=(hy u).sub (.cptr c1)
   exact QEx.sliceC ho hD hn hy2 (by rw [List.length_map];exact c2) (elC_len cx.ok) (Nat.le_of_ble_eq_true g2.1)
 | _=>cases h
def isCp:Option (SV tb)->Bool
 | some (.cp _)=>true
 | _=>false
end
end
section
open Go.RowKit
variable [GlC]
section
variable {P:Program} {o:Oper} {e:Env}
theorem QEx.slice3R {t y hi mx E sz by_ id k k' need} {xs:List AV} (ho:o.op=.slice t y none (some hi) (some mx)) (ht:ElemT P t E sz by_) (hy:OpdOk e y (.rw id sz)) (hn:(id,xs.flatMap AV.cells)∈need) (hxs:∀ x∈xs,x.cells.length=sz) (hp:0<sz)
 (hhi:OpdOk e hi (.v (.int k xs.length))) (hmx:OpdOk e mx (.v (.int k' xs.length))):QEx P o e need (.rw id sz):=
 .pure fun _ _ _ m bl ac w hws hnd hr=>by
  have q1:=hy.rep hr (by simp [ho,Op.operands])
  have q2:=(hhi.rep hr (by simp [ho,Op.operands])).eq_v
  have q3:=(hmx.rep hr (by simp [ho,Op.operands])).eq_v
  generalize hv:ac.eval y=v at q1
  have hf:=hnd _ hn
  have hfl:=flat_len hxs
  cases q1 with
  | rwnil hb=>
    rename_i ad
    have:xs=[]:=by
     rcases hws.blk id _ hf with ⟨-,g⟩ | ⟨b,n,arr,T,pre,rest,g1,-⟩
     ·rw [show (xs.flatMap AV.cells)=[] from g] at hfl
      rcases Nat.mul_eq_zero.1 (show xs.length*sz=0 by rw [<- hfl];rfl) with h | h
      ·exact List.eq_nil_of_length_eq_zero h
      ·omega
     ·rw [g1] at hb;cases hb
    subst this
    refine ⟨.slice ad 0 0,?_,.rwnil hb⟩
    simp [execOp,ho,hv,Instr.sliceAt,run_underlying_of ht.under,Instr.slice,Instr.sliceBounds,q2,q3,Instr.sliceBound,asIntOf,run_sizeOf_of ht.sz,Addr.add]
  | rw hb g1 g2 g3=>
    rename_i b n cap len
    obtain ⟨arr,T,pre,rest,r1,r2,r3,r4,r5⟩:=hws.at_ hf hb
    have hn2:n.2=pre.length:=by rw [<- r2]
    have:len=xs.length:=Nat.eq_of_mul_eq_mul_right hp (by rw [g1,hn2,<- r4.length,hfl])
    subst this
    refine ⟨.slice (some ⟨b,0,none⟩) xs.length xs.length,?_,.rw hb g1 (Nat.le_refl _) (Nat.le_trans (Nat.mul_le_mul_right _ g2) g3)⟩
    have hc:(xs.length:Int)<=(cap:Int):=by omega
    have h0:0<=(xs.length:Int):=by omega
    simp [execOp,ho,hv,Instr.sliceAt,run_underlying_of ht.under,Instr.slice,Instr.sliceBounds,q2,q3,Instr.sliceBound,asIntOf,run_sizeOf_of ht.sz,Addr.add,h0,hc]
    try (intro h;omega)
end
section
variable {P:Program} {tb:Tb} {ρ:Type} {cx:Ctx P tb}
def qSlice3R (L:SLS tb) (G:Gd) (t id:Nat) (E:tb.Ix) (hi mx:Operand) (P:Program) (k:SV tb->List Nat->Option ρ):Option ρ:=
 got (opd L G hi) fun b=>got (asI b) fun p=>got (opd L G mx) fun c=>got (asI c) fun q=>got (elemT P t (tb.sz E)) fun _=>got (arrAt L id E) fun l=>chk G (p.2=(l.length:Int)/\q.2=(l.length:Int)) (k (.rw id E) [id])
def qSlice3W (cx:Ctx P tb) (L:SLS tb) (G:Gd) (t:Nat) (y hi mx:Operand) (k:SV tb->List Nat->Option ρ):Option ρ:=match opd L G y with
 | some (.rw id E)=>qSlice3R L G t id E hi mx P k
 | _=>qSlice3 P L G t y hi mx k
theorem qSlice3W_ok {L:SLS tb} {G o t y hi mx} {k:SV tb->List Nat->Option ρ} {r} (ho:o.op=.slice t y none (some hi) (some mx)) (h:qSlice3W cx L G t y hi mx k=some r):QOk P L G o k r:=by
 unfold qSlice3W at h
 split at h
 ·rename_i id E ha
  unfold qSlice3R at h
  obtain ⟨b,hb,h⟩:=got_e h
  obtain ⟨p,hp,h⟩:=got_e h
  obtain ⟨c,hc1,h⟩:=got_e h
  obtain ⟨q,hq,h⟩:=got_e h
  obtain ⟨ET,hE,h⟩:=got_e h
  obtain ⟨l,hl,h⟩:=got_e h
  have hl:=arrAt_e hl
  obtain ⟨hc,h⟩:=chk_e h
  have hy:=fun u=>opd_ok (L:=L) (G:=G) u ha
  have hz:=fun u=>opd_ok (L:=L) (G:=G) u hb
  have hw:=fun u=>opd_ok (L:=L) (G:=G) u hc1
  rw [asI_e hp] at hz
  rw [asI_e hq] at hw
  refine ⟨_,_,h,fun u=>?_⟩
  rw [needAV_one hl]
  obtain ⟨h1,h2⟩:=hc u.on
  rw [h1] at hz
  rw [h2] at hw
  exact QEx.slice3R (xs:=l.map (tb.el E)) ho (elemT_e hE) (hy u) (show _∈[(id,elC tb E l)] from mem1) (elC_len cx.ok) (cx.ok E).pos (by rw [List.length_map];exact hz u) (by rw [List.length_map];exact hw u)
 ·exact qSlice3_ok ho h
end
end
section
open Go.RowKit
variable [GlC]
section
variable {P:Program} {tb:Tb} {ρ:Type} {cx:Ctx P tb}
def args1 (c:Call):Option (Operand × Nat):=match c.args.toList,c.argTypes.toList with
 | [y],[t]=>some (y,t)
 | _,_=>none
theorem args1_e {c:Call} {p} (h:args1 c=some p):c.args=#[p.1]/\c.argTypes=#[p.2]:=by
 unfold args1 at h
 split at h
 ·rename_i y t h1 h2
  cases h
  exact ⟨Array.toArray_toList.symm.trans (by rw [h1]),Array.toArray_toList.symm.trans (by rw [h2])⟩
 ·cases h
def args2 (c:Call):Option (Operand × Operand):=match c.args.toList with
 | [y,z]=>some (y,z)
 | _=>none
theorem args2_e {c:Call} {p} (h:args2 c=some p):c.args=#[p.1,p.2]:=by
 unfold args2 at h
 split at h
 ·rename_i y z h1
  cases h
  exact Array.toArray_toList.symm.trans (by rw [h1])
 ·cases h
def types2 (c:Call):Option (Nat × Nat):=match c.argTypes.toList with
 | [y,z]=>some (y,z)
 | _=>none
theorem types2_e {c:Call} {p} (h:types2 c=some p):c.argTypes=#[p.1,p.2]:=by
 unfold types2 at h
 split at h
 ·rename_i y z h1
  cases h
  exact Array.toArray_toList.symm.trans (by rw [h1])
 ·cases h
def qCallD (cx:Ctx P tb) (L:SLS tb) (G:Gd) (c:Call) (k:SV tb->List Nat->Option ρ):Option ρ:=match c.callee with
 | .value y=>qCall cx L G y c.args k
 | .builtin b=>(match b with
   | .len=>got (args1 c) fun p=>qLen2 cx L G p.1 p.2 k
   | .cap=>got (args1 c) fun p=>qCap P L G p.1 p.2 k
   | .max=>got (args2 c) fun p=>qMM L G true p.1 p.2 k
   | .min=>got (args2 c) fun p=>qMM L G false p.1 p.2 k
   | _=>none)
 | _=>none
theorem qCallD_ok {L:SLS tb} {G o c} {k:SV tb->List Nat->Option ρ} {r} (ho:o.op=.call c) (h:qCallD cx L G c k=some r):QOk P L G o k r:=by
 obtain ⟨ce,ar,ty⟩:=c
 unfold qCallD at h
 split at h
 ·rename_i y hy
  simp only at hy;subst hy
  exact qCall_ok (cx:=cx) ho h
 ·rename_i b hb
  simp only at hb;subst hb
  split at h
  ·obtain ⟨p,hp,h⟩:=got_e h
   obtain ⟨h1,h2⟩:=args1_e hp
   simp only at h1 h2;subst h1 h2
   exact qLen2_ok (cx:=cx) ho h
  ·obtain ⟨p,hp,h⟩:=got_e h
   obtain ⟨h1,h2⟩:=args1_e hp
   simp only at h1 h2;subst h1 h2
   exact qCap_ok ho h
  ·obtain ⟨p,hp,h⟩:=got_e h
   have h1:=args2_e hp
   simp only at h1;subst h1
   exact qMM_ok (.inl ⟨rfl,ho⟩) h
  ·obtain ⟨p,hp,h⟩:=got_e h
   have h1:=args2_e hp
   simp only at h1;subst h1
   exact qMM_ok (.inr ⟨rfl,ho⟩) h
  ·cases h
 ·cases h
def qop (cx:Ctx P tb) (L:SLS tb) (G:Gd) (op:Op) (k:SV tb->List Nat->Option ρ):Option ρ:=match op with
 | .move y=>qMove L G y k
 | .assign y=>qMove L G y k
 | .pick c y z=>qPick L G c y z k
 | .load t y=>qLoad cx L G t y k
 | .nilCheck y=>qNil L G y k
 | .binOp op t y z yt=>(match isNilI z with
   | true=>(match op with
     | .eql=>qNilI P L G false t y k
     | .neq=>qNilI P L G true t y k
     | _=>none)
   | false=>qBin cx L G op t y z yt k)
 | .unOp op _ y=>qUn L G op y k
 | .convert s d y=>qConv2 cx L G s d y k
 | .slice t y lo hi mx=>(match mx with
   | none=>(match lo,hi,isCp (opd L G y) with
     | none,none,true=>qArrS cx L G t y k
     | _,_,_=>qSliceN cx L G t y lo hi k)
   | some m=>match lo,hi with
     | none,some h=>qSlice3W cx L G t y h m k
     | some l,some h=>qSlice3U cx L G t y l h m k
     | _,_=>none)
 | .fieldAddr t y f=>qFieldA P L G t y f k
 | .field t y f=>qField P L G t y f k
 | .indexAddr t y z=>qIxA cx L G t y z k
 | .index t y z=>qIx cx L G t y z k
 | .extract y i=>qExt L G y i k
 | .build t ps=>qBuild P L G t ps k
 | .buildSlice t n ps=>qBuildS cx L G t n ps k
 | .makeFunc fn fi ca=>qMkF L G fn fi ca k
 | .call c=>qCallD cx L G c k
 | .makeInterface t y=>qMkI P L G t y k
 | .typeAssert y _ t true=>qOut P L G y t k
 | .sliceToArrayPointer t y=>(match G with
   | []=>qArr cx L [] t y k
   | _::_=>none)
 | _=>none
theorem qop_ok {L:SLS tb} {G o} {k:SV tb->List Nat->Option ρ} {r} (h:qop cx L G o.op k=some r):QOk P L G o k r:=by
 unfold qop at h
 split at h
 ·exact qMove_ok (.inl ‹_›) h
 ·exact qMove_ok (.inr ‹_›) h
 ·exact qPick_ok ‹_› h
 ·exact qLoad_ok (cx:=cx) ‹_› h
 ·exact qNil_ok ‹_› h
 ·rename_i ho
  split at h
  ·rename_i hz
   rw [isNilI_e hz] at ho
   split at h
   ·exact qNilI_ok (neg:=false) ho h
   ·exact qNilI_ok (neg:=true) ho h
   ·cases h
  ·exact qBin_ok (cx:=cx) ho h
 ·exact qUn_ok ‹_› h
 ·exact qConv2_ok (cx:=cx) ‹_› h
 ·split at h
  ·split at h
   ·exact qArrS_ok (cx:=cx) ‹_› h
   ·exact qSliceN_ok (cx:=cx) ‹_› h
  ·split at h
   ·exact qSlice3W_ok (cx:=cx) ‹_› h
   ·exact qSlice3U_ok (cx:=cx) ‹_› h
   ·cases h
 ·exact qFieldA_ok ‹_› h
 ·exact qField_ok ‹_› h
 ·exact qIxA_ok (cx:=cx) ‹_› h
 ·exact qIx_ok (cx:=cx) ‹_› h
 ·exact qExt_ok ‹_› h
 ·exact qBuild_ok ‹_› h
 ·exact qBuildS_ok (cx:=cx) ‹_› h
 ·exact qMkF_ok ‹_› h
 ·exact qCallD_ok (cx:=cx) ‹_› h
 ·exact qMkI_ok ‹_› h
 ·exact qOut_ok ‹_› h
 ·split at h
  ·exact qArr_ok (cx:=cx) ‹_› h rfl
  ·cases h
 ·cases h
structure KL where
 re:List Nat
 rh:List Nat
 we:List Nat
 wh:List Nat
 nm:List Nat
structure KOf (c:Loc) (κ:KL):Prop where
 re:∀ p∈c.re,p.1∈κ.re
 rh:∀ p∈c.rh,p.1∈κ.rh
 we:∀ p∈c.we,p.1∈κ.we
 wh:∀ p∈c.wh,p.1∈κ.wh
 nm:c.nm=κ.nm
theorem reOf_keys {e:Env}:∀ {ts:List Nat},∀ p∈reOf e ts,p.1∈ts
 | [],p,h=>by simp [reOf] at h
 | t :: ts,p,h=>by
   simp only [reOf] at h
   split at h
   ·rcases List.mem_cons.1 h with rfl | h
    ·exact List.mem_cons_self
    ·exact List.mem_cons_of_mem _ (reOf_keys p h)
   ·exact List.mem_cons_of_mem _ (reOf_keys p h)
theorem needAV_keys {L:SLS tb}:∀ {ids},∀ p∈needAV L ids,p.1∈ids
 | [],p,h=>by simp [needAV] at h
 | id::r,p,h=>by
   simp only [needAV] at h
   split at h
   ·rcases List.mem_cons.1 h with rfl | h
    ·exact List.mem_cons_self
    ·exact List.mem_cons_of_mem _ (needAV_keys p h)
   ·exact List.mem_cons_of_mem _ (needAV_keys p h)
def RI (gs:List Nat) (e:SEnv tb):Prop:=∀ t G x,find t e=some (.opt G x)->GD e G/\G≠[]/\∀ g∈G,g.1∈gs
theorem RI.inv {gs} {e:SEnv tb} (h:RI gs e):GInv e:=fun t G x hf=>⟨(h t G x hf).1,(h t G x hf).2.1⟩
def notOpt:SV tb->Bool
 | .opt _ _=>false
 | _=>true
def memN (d:Nat):List Nat->Bool
 | []=>false
 | x::l=>match Nat.beq d x with | true=>true | false=>memN d l
theorem memN_e {d:Nat}:∀ {l:List Nat},memN d l=true↔d∈l
 | []=>by simp [memN]
 | x :: l=>by
   simp only [memN,List.mem_cons]
   split
   ·rename_i h;simp [Nat.eq_of_beq_eq_true h]
   ·rename_i h
    have:d≠x:=fun e=>by subst e;rw [Nat.beq_refl] at h;cases h
    rw [memN_e];simp [this]
theorem GD.put {e:SEnv tb} {d x}:∀ {G:Gd},GD e G->(∀ g∈G,g.1≠d)->GD ((d,x)::e) G
 | [],_,_=>trivial
 | (s,w,t)::G,h,hn=>by
   obtain ⟨h1,y,hy,h2⟩:=h
   have hs:d≠s:=Ne.symm (hn (s,w,t) (by simp))
   refine ⟨GD.put h1 fun g hg=>hn g (List.mem_cons_of_mem _ hg),y,hy,?_⟩
   rw [find_cons,if_neg hs]
   exact h2
theorem RI.put {gs} {e:SEnv tb} {d x} (h:RI gs e) (hd:memN d gs=false) (hx:notOpt x=true):RI gs ((d,x)::e):=by
 have hd':∀ g∈gs,g≠d:=by rintro g hg rfl;rw [memN_e.2 hg] at hd;cases hd
 intro t G y hf
 rw [find_cons] at hf
 split at hf
 ·cases hf;cases hx
 ·obtain ⟨h1,h2,h3⟩:=h t G y hf
  exact ⟨h1.put fun g hg=>hd' _ (h3 g hg),h2,h3⟩
theorem RI.putG {gs} {e:SEnv tb} {d x s G} (h:RI gs e) (hd:memN d (s::gs)=false) (hG:GD e G) (h0:G≠[]) (hs:∀ g∈G,g.1∈s::gs):RI (s::gs) ((d,.opt G x)::e):=by
 have hd':∀ g∈s::gs,g≠d:=by rintro g hg rfl;rw [memN_e.2 hg] at hd;cases hd
 intro t G' y hf
 rw [find_cons] at hf
 split at hf
 ·cases hf
  exact ⟨hG.put fun g hg=>hd' _ (hs g hg),h0,hs⟩
 ·obtain ⟨h1,h2,h3⟩:=h t G' y hf
  have h4:∀ g∈G',g.1∈s::gs:=fun g hg=>List.mem_cons_of_mem _ (h3 g hg)
  exact ⟨h1.put fun g hg=>hd' _ (h4 g hg),h2,h4⟩
def LOk (P:Program) (N:Nat) (ops:Array Oper) (o:Oper) (L:SLS tb) (k:SLS tb->List Nat->KL->Option ρ) (r:ρ):Prop:=
 ∃ (L':SLS tb) (gs:List Nat) (κ:KL) (c:Loc),k L' gs κ=some r/\KOf c κ/\LEx P ops N o c/\(∀ p∈c.re,find p.1 L.av.e=some p.2)/\(∀ p∈c.rh,find p.1 L.av.h=some p.2)/\
   (∀ d∈c.nm,L.nx<=d/\d<L'.nx)/\L.nx<=L'.nx/\L'.s=L.s/\L'.gn=L.gn/\L'.av.e=c.we++L.av.e/\L'.av.h=c.wh++L.av.h/\
   (∃ p,L'.e=p++L.e)/\(∃ p,L'.h=p++L.h)/\RI gs L'.e
def put (N:Nat) (gs:List Nat) (L:SLS tb) (d:Nat) (x:SV tb) (k:SLS tb->Option ρ):Option ρ:=
 tst (Nat.blt d N) <| tst (!memN d gs) <| tst (x.has (keepQ L.gn)) <| k { L with e:=(d,x)::L.e }
theorem put_e {N gs} {L:SLS tb} {d x} {k:SLS tb->Option ρ} {r} (h:put N gs L d x k=some r):d<N/\memN d gs=false/\x.res L.gn=x/\k { L with e:=(d,x)::L.e }=some r:=by
 obtain ⟨h1,h⟩:=tst_e h
 obtain ⟨h2,h⟩:=tst_e h
 obtain ⟨h3,h⟩:=tst_e h
 exact ⟨Nat.le_of_ble_eq_true h1,by simpa using h2,res_keep h3,h⟩
def lq (cx:Ctx P tb) (N:Nat) (ops:Array Oper) (L:SLS tb) (gs:List Nat) (o:Oper) (k:SLS tb->List Nat->KL->Option ρ):Option ρ:=
 qop cx L [] o.op fun x need=>match o.dst with
 | some d=>tst (notOpt x) <| put N gs L d x fun L'=>k L' gs ⟨o.looksAt ops,need,[d],[],[]⟩
 | none=>k L gs ⟨o.looksAt ops,need,[],[],[]⟩
theorem Gu.nil {L:SLS tb} (h:GInv L.e):Gu L []:=⟨h,trivial,rfl⟩
theorem needH_keys {L:SLS tb} {need}:∀ p∈needH (needAV L need),p.1∈need:=by
 intro p hp
 obtain ⟨p',hp',rfl⟩:=List.mem_map.1 hp
 exact needAV_keys p' hp'
theorem lq_ok {N ops} {L:SLS tb} {gs o} {k:SLS tb->List Nat->KL->Option ρ} {r} (hi:RI gs L.e) (hg:o.guard=none) (h:lq cx N ops L gs o k=some r):LOk P N ops o L k r:=by
 unfold lq at h
 obtain ⟨x,need,h,q⟩:=qop_ok (cx:=cx) h
 have q:=q (Gu.nil hi.inv)
 split at h
 ·rename_i d hd
  obtain ⟨ho,h⟩:=tst_e h
  obtain ⟨hN,hm,hx,h⟩:=put_e h
  refine ⟨_,_,_,_,h,⟨reOf_keys,needH_keys,by simp,by simp,rfl⟩,LEx.q hg q hd hN,reOf_mem.1,needH_mem.2 needAV_mem,by simp,Nat.le_refl _,rfl,rfl,?_,rfl,⟨[_],rfl⟩,⟨[],rfl⟩,hi.put hm ho⟩
  show (d,(x.res L.gn).av)::_=_
  rw [hx];rfl
 ·rename_i hd
  exact ⟨_,_,_,_,h,⟨reOf_keys,needH_keys,by simp,by simp,rfl⟩,LEx.qn hg q hd,reOf_mem.1,needH_mem.2 needAV_mem,by simp,Nat.le_refl _,rfl,rfl,rfl,rfl,⟨[],rfl⟩,⟨[],rfl⟩,hi⟩
def lg (cx:Ctx P tb) (N:Nat) (ops:Array Oper) (L:SLS tb) (gs:List Nat) (o:Oper) (j:Nat) (w:Bool) (k:SLS tb->List Nat->KL->Option ρ):Option ρ:=
 got o.dst fun d=>got ((ops[j]?).bind (·.dst)) fun s=>got (gdAt L.e s w) fun G=>
 qop cx L G o.op fun x need=>put N (s::gs) L d (.opt G x) fun L'=>k L' (s::gs) ⟨o.looksAt ops,need,[d],[],[]⟩
theorem gdAt_gs {gs} {e:SEnv tb} {s w G} (hi:RI gs e) (h:gdAt e s w=some G):∃ b G',G=(s,w,b)::G'/\GD e G/\∀ g∈G,g.1∈s::gs:=by
 unfold gdAt at h
 split at h
 ·rename_i G' y hf
  split at h
  ·cases h
  ·rename_i g G'
   split at h
   ·rename_i b hb
    cases h
    obtain ⟨h1,h2,h3⟩:=hi _ _ _ hf
    refine ⟨b,g::G',rfl,⟨h1,y,hb,.inr ⟨hf,by simp⟩⟩,?_⟩
    intro p hp
    rcases List.mem_cons.1 hp with rfl | hp
    ·simp
    ·exact List.mem_cons_of_mem _ (h3 p hp)
   ·cases h
 ·rename_i y hne hf
  split at h
  ·rename_i b hb
   cases h
   exact ⟨b,[],rfl,⟨trivial,y,hb,.inl ⟨hf,rfl⟩⟩,by simp⟩
  ·cases h
 ·cases h
theorem lg_ok {N ops} {L:SLS tb} {gs o j w} {k:SLS tb->List Nat->KL->Option ρ} {r} (hi:RI gs L.e) (hg:o.guard=some (j,w)) (h:lg cx N ops L gs o j w k=some r):LOk P N ops o L k r:=by
 unfold lg at h
 obtain ⟨d,hd,h⟩:=got_e h
 obtain ⟨s,hs,h⟩:=got_e h
 obtain ⟨G,hG,h⟩:=got_e h
 obtain ⟨x,need,h,q⟩:=qop_ok (cx:=cx) h
 obtain ⟨hN,hm,hx,h⟩:=put_e h
 obtain ⟨b,G',rfl,hGD,hgs⟩:=gdAt_gs hi hG
 have hc:gc ((s,w,b)::G')=(gc G'&&(b==w)):=by rw [gc_eq,gc_eq];rfl
 refine ⟨_,_,_,_,h,⟨reOf_keys,needH_keys,by simp,by simp,rfl⟩,LEx.g (x:=x.av) (c:=gc G') (t:=b) hg hs hGD.gv (fun hc2=>q ⟨hi.inv,hGD,by rw [hc];exact hc2⟩) hd hN,reOf_mem.1,needH_mem.2 needAV_mem,by simp,Nat.le_refl _,rfl,rfl,?_,rfl,⟨[_],rfl⟩,⟨[],rfl⟩,hi.putG hm hGD (by simp) hgs⟩
 show (d,((SV.opt _ x).res L.gn).av)::_=_
 rw [hx]
 show (d,AV.opt (gc ((s,w,b)::G')) x.av)::_=_
 rw [hc];rfl
end
end
section
open Go.RowKit
variable [GlC]
theorem WSim.subB {B m0 id Z Z' h m bl w} (s:WSim B m0 ((id,.cells Z)::h) m bl w) (hs:SubL Z Z'):WSim B m0 ((id,.cells Z')::h) m bl w:=by
 refine ⟨s.imm,s.le,s.grow,?_,?_,s.own,s.inj,s.gl⟩
 ·intro i l hf
  rw [find_cons] at hf
  split at hf
  ·rename_i hi;subst hi
   cases hf
   rcases s.blk id Z (by rw [find_cons,if_pos rfl]) with ⟨h1,h2⟩ | ⟨b,n,arr,T,pre,rest,g1,g2,g3,g4,g5,g6⟩
   ·refine .inl ⟨h1,?_⟩
    subst h2
    have:=hs m bl [] .nil
    cases this;rfl
   ·exact .inr ⟨b,n,arr,T,pre,rest,g1,g2,g3,g4,hs _ _ _ g5,g6⟩
  ·rename_i hi
   exact s.blk i l (by rw [find_cons,if_neg hi];exact hf)
 ·intro i x p hf
  rw [find_cons] at hf
  split at hf
  ·cases hf
  ·rename_i hi
   exact s.it i x p (by rw [find_cons,if_neg hi];exact hf)
theorem LEx.wsub {P ops N o re rh we id Z Z' nm} (h:LEx P ops N o ⟨re,rh,we,[(id,.cells Z)],nm⟩) (hs:SubL Z Z'):LEx P ops N o ⟨re,rh,we,[(id,.cells Z')],nm⟩:=by
 intro e s h0 f f' h1 h2 h3 h4 W0 m0 sa m bl a w S next Q k
 refine h e s h0 f f' h1 h2 h3 h4 W0 m0 sa m bl a w S next Q ?_
 intro a' w' m' bl' S'
 exact k a' w' m' bl' ⟨S'.defers,S'.size,S'.below,S'.ws.subB hs,S'.env,S'.stk,S'.free⟩
section
variable {P:Program} {tb:Tb} {ρ:Type} {cx:Ctx P tb}
def putH (L:SLS tb) (id:Nat) (c:SC tb) (k:SLS tb->Option ρ):Option ρ:=tst (keepQ L.gn id) <| tst (c.has (keepQ L.gn)) <| k { L with h:=(id,c)::L.h }
theorem SC.res_keep {g:Gn tb} {c:SC tb} (h:c.has (keepQ g)=true):c.res g=c:=by
 cases c with
 | cells l=>show SC.cells _=_;rw [resL_keep h]
 | arr E l=>rfl
 | iter s p=>rfl
theorem putH_e {L:SLS tb} {id c} {k:SLS tb->Option ρ} {r} (h:putH L id c k=some r):avH L.gn ((id,c)::L.h)=(id,c.av)::avH L.gn L.h/\k { L with h:=(id,c)::L.h }=some r:=by
 obtain ⟨h1,h⟩:=tst_e h
 obtain ⟨h2,h⟩:=tst_e h
 refine ⟨?_,h⟩
 unfold avH
 rw [List.filter_cons,if_pos h1,List.map_cons,SC.res_keep h2]
def putN (N:Nat) (gs:List Nat) (L:SLS tb) (d:Nat) (x:SV tb) (c:SC tb) (k:SLS tb->Option ρ):Option ρ:=
 tst (notOpt x) <| put N gs L d x fun L'=>putH L' L.nx c fun L''=>k { L'' with nx:=L.nx+1 }
def chop (cx:Ctx P tb) (E:tb.Ix):Nat->List (SV tb)->Option (List (tb.T E))
 | 0,l=>tst (isE l) (some [])
 | n+1,l=>got ((cx.cd E).ofC (l.take (tb.sz E))) fun z=>got (chop cx E n (l.drop (tb.sz E))) fun r=>some (z::r)
theorem chop_ok {E:tb.Ix}:∀ {n:Nat} {l:List (SV tb)} {r},chop cx E n l=some r->SubL (avL l) (elC tb E r)
 | 0,l,r,h=>by
   obtain ⟨h1,h⟩:=tst_e h
   cases h
   rw [isE_e h1];exact .refl _
 | n+1,l,r,h=>by
   obtain ⟨z,hz,h⟩:=got_e (show got ((cx.cd E).ofC (l.take (tb.sz E))) _=some r from h)
   obtain ⟨r',hr,h⟩:=got_e h
   cases h
   have h1:=((cx.ok E).ofC _ _ hz).1
   have h2:=h1.append (chop_ok hr)
   rw [<- avL_append,List.take_append_drop] at h2
   exact h2
def bigAr:TypeDesc->Option (Nat × Nat)
 | .array n e=>match Nat.blt 4 n with | true=>some (n,e) | false=>none
 | _=>none
def someAr:TypeDesc->Option (Nat × Nat)
 | .array n e=>some (n,e)
 | _=>none
def lAlloc (cx:Ctx P tb) (N:Nat) (ops:Array Oper) (L:SLS tb) (gs:List Nat) (o:Oper) (T:Nat) (im:Bool) (k:SLS tb->List Nat->KL->Option ρ):Option ρ:=
 got o.dst fun d=>got (zeroS P T) fun Z=>match (P.underlying T).bind (match im with | true=>someAr | false=>bigAr) with
 | some p=>got (tb.look p.2) fun E=>got (chop cx E p.1 Z) fun l=>putN N gs L d (.ptr L.nx 0) (.arr E l) fun L'=>k L' gs ⟨o.looksAt ops,[],[d],[L.nx],[L.nx]⟩
 | none=>putN N gs L d (.ptr L.nx 0) (.cells Z) fun L'=>k L' gs ⟨o.looksAt ops,[],[d],[L.nx],[L.nx]⟩
theorem putN_ok {N ops} {L:SLS tb} {gs o d x c Z} {rh:Hp} {k:SLS tb->List Nat->KL->Option ρ} {κ r} (hi:RI gs L.e) (hc:c.av=.cells Z)
 (hl:d<N->LEx P ops N o ⟨reOf L.E (o.looksAt ops),rh,[(d,x.av)],[(L.nx,.cells Z)],[L.nx]⟩) (hrh:∀ p∈rh,find p.1 L.av.h=some p.2) (hk:∀ p∈rh,p.1∈κ.rh) (h1:κ.re=o.looksAt ops) (h2:κ.we=[d]) (h3:κ.wh=[L.nx]) (h4:κ.nm=[L.nx])
 (h:putN N gs L d x c (fun L'=>k L' gs κ)=some r):LOk P N ops o L k r:=by
 unfold putN at h
 obtain ⟨ho,h⟩:=tst_e h
 obtain ⟨hN,hm,hx,h⟩:=put_e h
 obtain ⟨hh,h⟩:=putH_e h
 refine ⟨_,_,_,_,h,⟨?_,hk,?_,?_,h4.symm⟩,hl hN,reOf_mem.1,hrh,?_,Nat.le_succ _,rfl,rfl,?_,?_,⟨[_],rfl⟩,⟨[_],rfl⟩,hi.put hm ho⟩
 ·rw [h1];exact reOf_keys
 ·rw [h2];simp
 ·rw [h3];simp
 ·intro y hy;simp at hy;subst hy;exact ⟨Nat.le_refl _,Nat.lt_succ_self _⟩
 ·show (d,(x.res L.gn).av)::_=_
  rw [hx];rfl
 ·show avH L.gn ((L.nx,c)::L.h)=_
  rw [hh,hc];rfl
theorem lAlloc_ok {N ops} {L:SLS tb} {gs o T im} {k:SLS tb->List Nat->KL->Option ρ} {r} (hi:RI gs L.e) (hg:o.guard=none) (ho:o.op=.alloc T) (h:lAlloc cx N ops L gs o T im k=some r):LOk P N ops o L k r:=by
 unfold lAlloc at h
 obtain ⟨d,hd,h⟩:=got_e h
 obtain ⟨Z,hZ,h⟩:=got_e h
 split at h
 ·obtain ⟨E,hE,h⟩:=got_e h
  obtain ⟨l,hl,h⟩:=got_e h
  exact putN_ok (rh:=[]) hi rfl (fun hN=>(LEx.alloc hg ho (zeroS_e hZ) hd hN).wsub (chop_ok hl)) (by simp) (by simp) rfl rfl rfl rfl h
 exact putN_ok (rh:=[]) hi rfl (fun hN=>LEx.alloc hg ho (zeroS_e hZ) hd hN) (by simp) (by simp) rfl rfl rfl rfl h
def lBox (N:Nat) (ops:Array Oper) (L:SLS tb) (gs:List Nat) (o:Oper) (y:Operand) (im:Bool) (k:SLS tb->List Nat->KL->Option ρ):Option ρ:=
 got o.dst fun d=>got (opd L [] y) fun x=>tst (solidS x) (match im with
 | true=>tst (hasL (fun _=>false) (cellsS x)) <| put N gs L d (.cp (cellsS x)) fun L'=>k L' gs ⟨o.looksAt ops,[],[d],[],[]⟩
 | false=>putN N gs L d (.ptr L.nx 0) (.cells (cellsS x)) fun L'=>k L' gs ⟨o.looksAt ops,[],[d],[L.nx],[L.nx]⟩)
theorem lBox_ok {N ops} {L:SLS tb} {gs o T y im} {k:SLS tb->List Nat->KL->Option ρ} {r} (hi:RI gs L.e) (hg:o.guard=none) (ho:o.op=.box T y) (h:lBox N ops L gs o y im k=some r):LOk P N ops o L k r:=by
 unfold lBox at h
 obtain ⟨d,hd,h⟩:=got_e h
 obtain ⟨x,hx,h⟩:=got_e h
 obtain ⟨hs,h⟩:=tst_e h
 obtain ⟨g1,g2⟩:=solidS_e hs
 have hy:=opd_ok (Gu.nil hi.inv) hx
 split at h
 ·obtain ⟨hb,h⟩:=tst_e h
  obtain ⟨hN,hm,hx2,h⟩:=put_e h
  have hb2:=hasL_bare hb
  rw [g2] at hb2
  refine ⟨_,_,_,_,h,⟨reOf_keys,by simp [needH],by simp,by simp,rfl⟩,LEx.q hg (QEx.boxC ho hy g1 hb2) hd hN,reOf_mem.1,by simp [needH],by simp,Nat.le_refl _,rfl,rfl,?_,rfl,⟨[_],rfl⟩,⟨[],rfl⟩,hi.put hm rfl⟩
  show (d,AV.cptr (avL (cellsS x)))::_=_
  rw [g2];rfl
 ·exact putN_ok (rh:=[]) hi (by show ABlk.cells _=_;rw [g2]) (fun hN=>LEx.box hg ho hy g1 hd hN) (by simp) (by simp) rfl rfl rfl rfl h
/-! stores -/
def lStore (cx:Ctx P tb) (ops:Array Oper) (L:SLS tb) (gs:List Nat) (o:Oper) (t:Nat) (y z:Operand) (k:SLS tb->List Nat->KL->Option ρ):Option ρ:=match o.dst with
 | some _=>none
 | none=>got (opd L [] y) fun p=>got (opd L [] z) fun x=>got (tSz P t) fun n=>tst (solidS x) <| tst (Nat.beq (cellsS x).length n) (match p with
   | .ptr id off=>got (cellsAt L id) fun l=>tst (Nat.ble (off+n) l.length) <| putH L id (.cells (l.take off++cellsS x++l.drop (off+n))) fun L'=>k L' gs ⟨o.looksAt ops,[id],[],[id],[]⟩
   | .epr id E i fo=>got (arrAt L id E) fun l=>tst (Nat.ble (fo+n) (tb.sz E)) <| Chk (0<=i/\i<l.length) <| got ((cx.cd E).ofC (((cx.cd E).cs (ixd (cx.cd E).inh l i)).take fo++cellsS x++((cx.cd E).cs (ixd (cx.cd E).inh l i)).drop (fo+n))) fun v=>
     Let (l.set i.toNat v) fun l'=>putH L id (.arr E l') fun L'=>k L' gs ⟨o.looksAt ops,[id],[],[id],[]⟩
   | _=>none)
theorem Let_e {β ρ:Type} {v:β} {k:β->Option ρ} {r:ρ} (h:Let v k=some r):k v=some r:=h
theorem Chk_e {α:Type} {c:Prop} [Decidable c] {k:Option α} {r:α} (h:Chk c k=some r):c/\k=some r:=by
 unfold Chk at h;split at h
 ·exact ⟨‹_›,h⟩
 ·cases h
theorem elC_set {E:tb.Ix}:∀ {l:List (tb.T E)} {i:Nat} {v:tb.T E},i<l.length->(∀ x,(tb.el E x).cells.length=tb.sz E)->elC tb E (l.set i v)=(elC tb E l).take (i*tb.sz E)++(tb.el E v).cells++(elC tb E l).drop ((i+1)*tb.sz E)
 | x::l,0,v,_,hc=>by
   simp only [elC,List.set_cons_zero,List.map_cons,List.flatMap_cons,Nat.zero_mul,List.take_zero,List.nil_append,Nat.zero_add,Nat.one_mul]
   rw [<- hc x,List.drop_left]
 | x::l,i+1,v,h,hc=>by
   have ih:=elC_set (l:=l) (i:=i) (v:=v) (by simpa using h) hc
   have e1:∀ z,elC tb E (x::z)=(tb.el E x).cells++elC tb E z:=fun z=>rfl
   have h1:(i+1)*tb.sz E=(tb.el E x).cells.length+i*tb.sz E:=by rw [hc,Nat.add_mul];omega
   have h2:(i+1+1)*tb.sz E=(tb.el E x).cells.length+(i+1)*tb.sz E:=by rw [hc,Nat.add_mul (i+1)];omega
   rw [List.set_cons_succ,e1,e1,ih,h2,h1,List.take_length_add_append,List.drop_length_add_append]
   simp [List.append_assoc]
theorem lStore_ok {N ops} {L:SLS tb} {gs o t y z} {k:SLS tb->List Nat->KL->Option ρ} {r} (hi:RI gs L.e) (hg:o.guard=none) (ho:o.op=.store t y z) (h:lStore cx ops L gs o t y z k=some r):LOk P N ops o L k r:=by
 unfold lStore at h
 split at h
 ·cases h
 ·rename_i hd
  obtain ⟨p,hp,h⟩:=got_e h
  obtain ⟨x,hx,h⟩:=got_e h
  obtain ⟨n,hn,h⟩:=got_e h
  obtain ⟨hs,h⟩:=tst_e h
  obtain ⟨hlen,h⟩:=tst_e h
  have hlen:=Nat.eq_of_beq_eq_true hlen
  obtain ⟨g1,g2⟩:=solidS_e hs
  have hy:=opd_ok (Gu.nil hi.inv) hp
  have hz:=opd_ok (Gu.nil hi.inv) hx
  have hl2:x.av.cells.length=n:=by rw [<- g2,avL_length,hlen]
  split at h
  ·obtain ⟨l,hl,h⟩:=got_e h
   obtain ⟨hf,h⟩:=tst_e h
   obtain ⟨hh,h⟩:=putH_e h
   have hl:=cellsAt_e hl
   have key:=LEx.store (l:=avL l) (ops:=ops) (N:=N) hg ho hd hn hy hz g1 hl2 (by rw [avL_length];exact Nat.le_of_ble_eq_true hf)
   refine ⟨_,_,_,_,h,⟨reOf_keys,by simp,by simp,by simp,rfl⟩,key,reOf_mem.1,?_,by simp,Nat.le_refl _,rfl,rfl,rfl,?_,⟨[],rfl⟩,⟨[_],rfl⟩,hi⟩
   ·intro q hq;simp at hq;subst hq;exact hl
   ·show avH L.gn _=_
    rw [hh]
    show (_,ABlk.cells (avL (l.take _++cellsS x++l.drop _)))::_=_
    rw [avL_append,avL_append,avL_take,avL_drop,g2];rfl
  ·rename_i id E i fo _ _ _ _
   obtain ⟨l,hl,h⟩:=got_e h
   obtain ⟨hf,h⟩:=tst_e h
   have hf:=Nat.le_of_ble_eq_true hf
   obtain ⟨hc,h⟩:=Chk_e h
   obtain ⟨v,hv,h⟩:=got_e h
   obtain ⟨hh,h⟩:=putH_e (Let_e h)
   have hl:=arrAt_e hl
   have hlt:i.toNat<l.length:=by omega
   have hm:=Nat.mul_le_mul_right (tb.sz E) (show i.toNat+1<=l.length from hlt)
   rw [Nat.add_mul,Nat.one_mul] at hm
   have key:=LEx.store (l:=elC tb E l) (ops:=ops) (N:=N) hg ho hd hn hy hz g1 hl2 (by rw [elC_length cx];omega)
   have hsub:=((cx.ok E).ofC _ _ hv).1
   rw [avL_append,avL_append,avL_take,avL_drop,g2,<- elC_at cx hc] at hsub
   have key:=key.wsub (Z':=elC tb E (l.set i.toNat v)) (by
    rw [elC_set hlt (cx.ok E).len]
    have e1:(elC tb E l).take (i.toNat*tb.sz E+fo)=(elC tb E l).take (i.toNat*tb.sz E)++(((elC tb E l).drop (i.toNat*tb.sz E)).take (tb.sz E)).take fo:=by
     rw [List.take_take,Nat.min_eq_left (by omega),List.take_add]
    have e2:(elC tb E l).drop (i.toNat*tb.sz E+fo+n)=(((elC tb E l).drop (i.toNat*tb.sz E)).take (tb.sz E)).drop (fo+n)++(elC tb E l).drop ((i.toNat+1)*tb.sz E):=by
     rw [List.drop_take,List.drop_drop,Nat.add_mul,Nat.one_mul]
     have:=List.take_append_drop (tb.sz E - (fo+n)) ((elC tb E l).drop (i.toNat*tb.sz E+(fo+n)))
     rw [List.drop_drop] at this
     rw [show i.toNat*tb.sz E+tb.sz E=i.toNat*tb.sz E+(fo+n)+(tb.sz E - (fo+n)) by omega,this,Nat.add_assoc]
    rw [e1,e2]
    have:=((SubL.refl ((elC tb E l).take (i.toNat*tb.sz E))).append hsub).append (SubL.refl ((elC tb E l).drop ((i.toNat+1)*tb.sz E)))
    simpa only [List.append_assoc] using this)
   refine ⟨_,_,_,_,h,⟨reOf_keys,by simp,by simp,by simp,rfl⟩,key,reOf_mem.1,?_,by simp,Nat.le_refl _,rfl,rfl,rfl,?_,⟨[],rfl⟩,⟨[_],rfl⟩,hi⟩
   ·intro q hq;simp at hq;subst hq;exact hl
   ·show avH L.gn _=_
    rw [hh];rfl
  ·cases h
end
end
end Go.Rx
end
