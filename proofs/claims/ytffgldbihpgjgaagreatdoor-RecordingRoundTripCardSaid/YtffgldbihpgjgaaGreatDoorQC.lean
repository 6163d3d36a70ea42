/- Several texts in one. No conditions. -/
import Derived.Test.YtffgldbihpgjgaaGreatDoorQB
section
set_option linter.all false
namespace Go.Rx
section
open Go.RowKit
variable [GlC]
def got {α ρ:Type} (m:Option α) (k:α->Option ρ):Option ρ:=(fun (_:Unit)=>match m with | some a=>k a | none=>none) jbs
theorem jg {α ρ:Type} {m:Option α} {k:α->Option ρ} {r:ρ} (h:got m k=some r):∃ a,m=some a/\k a=some r:=by
 unfold got at h;split at h
 ·exact ⟨_,rfl,h⟩
 ·cases h
def tst {ρ:Type} (b:Bool) (k:Option ρ):Option ρ:=(fun (_:Unit)=>match b with | true=>k | false=>none) jbs
theorem jK {ρ:Type} {b:Bool} {k:Option ρ} {r:ρ} (h:tst b k=some r):b=true/\k=some r:=by
 unfold tst at h;split at h
 ·exact ⟨rfl,h⟩
 ·cases h
section
variable {P:Program} {tb:Tb} {ρ:Type}
def QOk (P:Program) (L:SLS tb) (G:Gd) (o:Oper) (k:SV tb->List Nat->Option ρ) (r:ρ):Prop:=
 ∃ x need,k x need=some r/\(Gu L G->QEx P o L.E (yJ L need) x.av)
def asI:SV tb->Option (IntKind × Int)
 | .i k n=>some (k,n)
 | .con (.int k n)=>some (k,n)
 | _=>none
theorem zI {x:SV tb} {p} (h:asI x=some p):x.av=.v (.int p.1 p.2):=by
 unfold asI at h;split at h
 ·cases h;rfl
 ·cases h;rfl
 ·cases h
def isByte (n:Int):Bool:=match n with | .ofNat m=>Nat.blt m 256 | .negSucc _=>false
theorem jdp {n:Int} (h:isByte n=true):0<=n/\n<256:=by
 unfold isByte at h;split at h
 ·have:=Nat.le_of_ble_eq_true h
  simp;omega
 ·cases h
def asC:SV tb->Option UInt8
 | .b8 c=>some c
 | .con (.int .u8 n)=>(match isByte n with | true=>some (toByte n) | false=>none)
 | _=>none
theorem jd0 {x:SV tb} {c} (h:asC x=some c):x.av=Jg c:=by
 unfold asC at h;split at h
 ·cases h;rfl
 ·split at h
  ·rename_i hb;cases h
   show AV.v _=Jg _
   unfold Jg;rw [kg (jdp hb)]
  ·cases h
 ·cases h
theorem Qw {x:SV tb} {b} (h:QF x=some b):x.av=bAV b:=xQ h
def asS:SV tb->Option (List UInt8)
 | .st s=>some s
 | .con (.string s)=>some s.data.toList
 | _=>none
theorem Uu {x:SV tb} {s} (h:asS x=some s):x.av=sAV s:=by
 unfold asS at h;split at h
 ·cases h;rfl
 ·cases h;show AV.v _=AV.v _;rw [MU]
 ·cases h
def nz (x:SV tb) (G:Gd) (n:Int) (k:Option ρ):Option ρ:=match x with
 | .con _=>tst (decide (n≠0)) k
 | _=>chk G (n≠0) k
theorem nz_e {x:SV tb} {G n} {k:Option ρ} {r} (h:nz x G n k=some r):(gc G=true->n≠0)/\k=some r:=by
 unfold nz at h;split at h
 ·obtain ⟨h1,h⟩:=jK h;exact ⟨fun _=>of_decide_eq_true h1,h⟩
 ·exact Qg h
def nn (x:SV tb) (G:Gd) (n:Int) (k:Option ρ):Option ρ:=match x with
 | .con _=>tst (decide (0<=n)) k
 | _=>chk G (0<=n) k
theorem nn_e {x:SV tb} {G n} {k:Option ρ} {r} (h:nn x G n k=some r):(gc G=true->0<=n)/\k=some r:=by
 unfold nn at h;split at h
 ·obtain ⟨h1,h⟩:=jK h;exact ⟨fun _=>of_decide_eq_true h1,h⟩
 ·exact Qg h
def jb9 (G:Gd) (op:BinOp) (z:SV tb) (ki:IntKind) (a b:Int) (k:SV tb->List Nat->Option ρ):Option ρ:=match op with
 | .add=>Let (ki.wrap (a+b)) fun n=>k (.i ki n) []
 | .sub=>Let (ki.wrap (a - b)) fun n=>k (.i ki n) []
 | .mul=>Let (ki.wrap (a*b)) fun n=>k (.i ki n) []
 | .and=>Let (bAnd ki a b) fun n=>k (.i ki n) []
 | .or=>Let (bOr ki a b) fun n=>k (.i ki n) []
 | .xor=>Let (jcd ki a b) fun n=>k (.i ki n) []
 | .eql=>Let (a==b) fun t=>k (.bo t) []
 | .neq=>Let (a != b) fun t=>k (.bo t) []
 | .lss=>Let (decide (a<b)) fun t=>k (.bo t) []
 | .leq=>Let (decide (a<=b)) fun t=>k (.bo t) []
 | .gtr=>Let (decide (a>b)) fun t=>k (.bo t) []
 | .geq=>Let (decide (a>=b)) fun t=>k (.bo t) []
 | .quo=>nz z G b (Let (ki.wrap (a.tdiv b)) fun n=>k (.i ki n) [])
 | .rem=>nz z G b (Let (a.tmod b) fun n=>k (.i ki n) [])
 | _=>none
theorem jb8 {L:SLS tb} {G o op t y z yt ki a b zs} {k:SV tb->List Nat->Option ρ} {r} (ho:o.op=.binOp op t y z yt) (hy:Gu L G->jF L.E y (.v (.int ki a))) (hz:Gu L G->jF L.E z (.v (.int ki b)))
 (h:jb9 G op zs ki a b k=some r):QOk P L G o k r:=by
 unfold jb9 at h
 split at h
 all_goals first
  | cases h;done
  | exact ⟨_,[],h,fun u=>QEx.Ms ho (hy u) (hz u) rfl⟩
  | (obtain ⟨h1,h⟩:=nz_e h;exact ⟨_,[],h,fun u=>QEx.quo ho (hy u) (hz u) (h1 u.on)⟩)
  | (obtain ⟨h1,h⟩:=nz_e h;exact ⟨_,[],h,fun u=>QEx.rem ho (hy u) (hz u) (h1 u.on)⟩)
def XT (G:Gd) (op:BinOp) (p q:UInt8) (k:SV tb->List Nat->Option ρ):Option ρ:=match op with
 | .add=>Let (p+q) fun n=>k (.b8 n) []
 | .sub=>Let (p - q) fun n=>k (.b8 n) []
 | .rem=>chk G (q≠0) (Let (p % q) fun n=>k (.b8 n) [])
 | .eql=>Let (p==q) fun t=>k (.bo t) []
 | .neq=>Let (p != q) fun t=>k (.bo t) []
 | .lss=>Let (decide (p<q)) fun t=>k (.bo t) []
 | .leq=>Let (decide (p<=q)) fun t=>k (.bo t) []
 | .gtr=>Let (decide (q<p)) fun t=>k (.bo t) []
 | .geq=>Let (decide (q<=p)) fun t=>k (.bo t) []
 | _=>none
theorem Mt {L:SLS tb} {G o op t y z yt a b} {k:SV tb->List Nat->Option ρ} {r} (ho:o.op=.binOp op t y z yt) (hy:Gu L G->jF L.E y (Jg a)) (hz:Gu L G->jF L.E z (Jg b))
 (h:XT G op a b k=some r):QOk P L G o k r:=by
 unfold XT at h
 split at h
 ·exact ⟨_,[],h,fun u=>QEx.addC ho (hy u) (hz u)⟩
 ·exact ⟨_,[],h,fun u=>QEx.subC ho (hy u) (hz u)⟩
 ·obtain ⟨h1,h⟩:=Qg h;exact ⟨_,[],h,fun u=>QEx.remC ho (hy u) (hz u) (h1 u.on)⟩
 ·exact ⟨_,[],h,fun u=>QEx.eqlC ho (hy u) (hz u)⟩
 ·exact ⟨_,[],h,fun u=>QEx.neqC ho (hy u) (hz u)⟩
 ·exact ⟨_,[],h,fun u=>QEx.lssC ho (hy u) (hz u)⟩
 ·exact ⟨_,[],h,fun u=>QEx.leqC ho (hy u) (hz u)⟩
 ·exact ⟨_,[],h,fun u=>QEx.gtrC ho (hy u) (hz u)⟩
 ·exact ⟨_,[],h,fun u=>QEx.geqC ho (hy u) (hz u)⟩
 ·cases h
def jb7 (G:Gd) (op:BinOp) (p q:List UInt8) (k:SV tb->List Nat->Option ρ):Option ρ:=match op with
 | .add=>chk G (p.length+q.length<=9223372036854775807) (Let (p++q) fun n=>k (.st n) [])
 | .eql=>Let (p==q) fun t=>k (.bo t) []
 | .neq=>Let (p != q) fun t=>k (.bo t) []
 | .lss=>Let (Xe p q) fun t=>k (.bo t) []
 | _=>none
theorem jb6 {L:SLS tb} {G o op t y z yt a b} {k:SV tb->List Nat->Option ρ} {r} (ho:o.op=.binOp op t y z yt) (hy:Gu L G->jF L.E y (sAV a)) (hz:Gu L G->jF L.E z (sAV b))
 (h:jb7 G op a b k=some r):QOk P L G o k r:=by
 unfold jb7 at h
 split at h
 ·obtain ⟨h1,h⟩:=Qg h;exact ⟨_,[],h,fun u=>QEx.addS ho (hy u) (hz u) (h1 u.on)⟩
 ·exact ⟨_,[],h,fun u=>QEx.eqlS ho (hy u) (hz u)⟩
 ·exact ⟨_,[],h,fun u=>QEx.neqS ho (hy u) (hz u)⟩
 ·exact ⟨_,[],h,fun u=>QEx.lssS ho (hy u) (hz u)⟩
 ·cases h
def XU (op:BinOp) (p q:Bool) (k:SV tb->List Nat->Option ρ):Option ρ:=match op with
 | .eql=>Let (p==q) fun t=>k (.bo t) []
 | .neq=>Let (p != q) fun t=>k (.bo t) []
 | _=>none
def XI:TypeDesc->Bool
 | .bool=>true
 | _=>false
theorem jbi {d} (h:XI d=true):d=.bool:=by unfold XI at h;split at h;rfl;cases h
theorem Mu {L:SLS tb} {G o op t y z yt a b} {k:SV tb->List Nat->Option ρ} {r} (ht:P.underlying t=some .bool) (ho:o.op=.binOp op t y z yt) (hy:Gu L G->jF L.E y (bAV a)) (hz:Gu L G->jF L.E z (bAV b))
 (h:XU op a b k=some r):QOk P L G o k r:=by
 unfold XU at h
 split at h
 ·exact ⟨_,[],h,fun u=>QEx.binB ho (hy u) (hz u) rfl ht⟩
 ·exact ⟨_,[],h,fun u=>QEx.binB ho (hy u) (hz u) rfl ht⟩
 ·cases h
def findEq (t:Nat):List (EqE P tb)->Option (EqE P tb)
 | []=>none
 | e::r=>match Nat.beq e.t t with | true=>some e | false=>findEq t r
theorem PD {t:Nat}:∀ {l:List (EqE P tb)} {e},findEq t l=some e->e.t=t
 | [],_,h=>by simp [findEq] at h
 | e::r,e',h=>by
   simp only [findEq] at h
   split at h
   ·rename_i hb;cases h;exact Nat.eq_of_beq_eq_true hb
   ·exact PD h
def jcb (cx:Ctx P tb) (op:BinOp) (t yt:Nat) (a b:SV tb) (k:SV tb->List Nat->Option ρ):Option ρ:=
 tst (Nat.beq yt t) <| got (findEq t cx.eqs) fun e=>got ((cx.cd e.i).of a) fun x=>got ((cx.cd e.i).of b) fun y=>match op with
  | .eql=>Let (e.beq x y) fun t=>k (.bo t) []
  | .neq=>Let (!e.beq x y) fun t=>k (.bo t) []
  | _=>none
theorem jF.sub {e:Env} {y x x'} (h:jF e y x) (s:Sub x x'):jF e y x':=fun m bl a hr=>s m bl _ (h m bl a hr)
theorem jca {cx:Ctx P tb} {L:SLS tb} {G o op t y z yt a b} {k:SV tb->List Nat->Option ρ} {r} (ho:o.op=.binOp op t y z yt) (hy:Gu L G->jF L.E y a.av) (hz:Gu L G->jF L.E z b.av)
 (h:jcb cx op t yt a b k=some r):QOk P L G o k r:=by
 unfold jcb at h
 obtain ⟨ht,h⟩:=jK h
 have ht:=Nat.eq_of_beq_eq_true ht
 obtain ⟨e,he,h⟩:=jg h
 obtain ⟨x,hx,h⟩:=jg h
 obtain ⟨x',hx',h⟩:=jg h
 have h1:=fun u=>(hy u).sub ((cx.ok e.i).of _ _ hx)
 have h2:=fun u=>(hz u).sub ((cx.ok e.i).of _ _ hx')
 have:=e.ok
 rw [PD he] at this
 rw [ht] at ho
 split at h
 ·exact ⟨_,[],h,fun u=>QEx.eqlA ho this (h1 u) (h2 u)⟩
 ·exact ⟨_,[],h,fun u=>QEx.neqA ho this (h1 u) (h2 u)⟩
 ·cases h
def conP:SV tb->SV tb->Option (IntKind × Int × Int)
 | .con (.int k n),.con (.int k' n')=>(match decide (k=k') with | true=>some (k,n,n') | false=>none)
 | _,_=>none
theorem conP_e {x y:SV tb} {p} (h:conP x y=some p):x.av=.v (.int p.1 p.2.1)/\y.av=.v (.int p.1 p.2.2):=by
 unfold conP at h
 split at h
 ·split at h
  ·rename_i hd
   have:=of_decide_eq_true hd
   subst this
   cases h;exact ⟨rfl,rfl⟩
  ·cases h
 ·cases h
def foldI (op:BinOp) (ki:IntKind) (a b:Int):Option Value:=match op with
 | .add=>some (.int ki (ki.wrap (a+b)))
 | .sub=>some (.int ki (ki.wrap (a - b)))
 | .eql=>some (.bool (a==b))
 | .neq=>some (.bool (a != b))
 | .lss=>some (.bool (decide (a<b)))
 | .leq=>some (.bool (decide (a<=b)))
 | .gtr=>some (.bool (decide (a>b)))
 | .geq=>some (.bool (decide (a>=b)))
 | _=>none
def fold2 (op:BinOp) (x y:SV tb):Option Value:=match conP x y with
 | some p=>foldI op p.1 p.2.1 p.2.2
 | none=>none
theorem jdx {L:SLS tb} {G o op t y z yt ki a b v} {k:SV tb->List Nat->Option ρ} {r} (ho:o.op=.binOp op t y z yt) (hy:Gu L G->jF L.E y (.v (.int ki a))) (hz:Gu L G->jF L.E z (.v (.int ki b)))
 (hf:foldI op ki a b=some v) (h:k (.con v) []=some r):QOk P L G o k r:=by
 unfold foldI at hf
 split at hf
 all_goals first | (cases hf;exact ⟨_,[],h,fun u=>QEx.Ms ho (hy u) (hz u) rfl⟩) | cases hf
def jfZ:BinOp->Bool
 | .shl=>true
 | .shr=>true
 | _=>false
def jed (G:Gd) (op:BinOp) (z:SV tb) (ki:IntKind) (a b:Int) (k:SV tb->List Nat->Option ρ):Option ρ:=match op with
 | .shl=>nn z G b (Let (bShl ki a b) fun n=>k (.i ki n) [])
 | .shr=>nn z G b (Let (vO ki a b) fun n=>k (.i ki n) [])
 | _=>none
def qBin (cx:Ctx P tb) (L:SLS tb) (G:Gd) (op:BinOp) (t:Nat) (y z:Operand) (yt:Nat) (k:SV tb->List Nat->Option ρ):Option ρ:=
 got (opd L G y) fun a=>got (opd L G z) fun b=>match fold2 op a b with
 | some v=>k (.con v) []
 | none=>match jfZ op with
 | true=>got (asI a) fun p=>got (asI b) fun q=>jed G op b p.1 p.2 q.2 k
 | false => match asI a,asI b with
   | some p,some q=>tst (decide (p.1=q.1)) (jb9 G op b p.1 p.2 q.2 k)
   | _,_=>match asC a,asC b with
     | some p,some q=>XT G op p q k
     | _,_=>match QF a,QF b with
       | some p,some q=>got (P.underlying t) fun d=>tst (XI d) (XU op p q k)
       | _,_=>match asS a,asS b with
         | some p,some q=>jb7 G op p q k
         | _,_=>jcb cx op t yt a b k
theorem jfu {cx:Ctx P tb} {L:SLS tb} {G o op t y z yt} {k:SV tb->List Nat->Option ρ} {r} (ho:o.op=.binOp op t y z yt) (h:qBin cx L G op t y z yt k=some r):QOk P L G o k r:=by
 unfold qBin at h
 obtain ⟨a,ha,h⟩:=jg h
 obtain ⟨b,hb,h⟩:=jg h
 have hy:=fun u=>jY (L:=L) (G:=G) u ha
 have hz:=fun u=>jY (L:=L) (G:=G) u hb
 split at h
 ·rename_i v hv
  unfold fold2 at hv
  split at hv
  ·rename_i p hp
   obtain ⟨g1,g2⟩:=conP_e hp
   rw [g1] at hy;rw [g2] at hz
   exact jdx ho hy hz hv h
  ·cases hv
 ·split at h
  ·obtain ⟨p,hp,h⟩:=jg h
   obtain ⟨q,hq,h⟩:=jg h
   rw [zI hp] at hy;rw [zI hq] at hz
   unfold jed at h
   split at h
   ·obtain ⟨h1,h⟩:=nn_e h;exact ⟨_,[],h,fun u=>QEx.shl ho (hy u) (hz u) (h1 u.on)⟩
   ·obtain ⟨h1,h⟩:=nn_e h;exact ⟨_,[],h,fun u=>QEx.shr ho (hy u) (hz u) (h1 u.on)⟩
   ·cases h
  ·split at h
   ·rename_i p q hp hq
    obtain ⟨h1,h⟩:=jK h
    have h1:=of_decide_eq_true h1
    rw [zI hp] at hy;rw [zI hq,<- h1] at hz
    exact jb8 ho hy hz h
   ·split at h
    ·rename_i p q hp hq
     rw [jd0 hp] at hy;rw [jd0 hq] at hz
     exact Mt ho hy hz h
    ·split at h
     ·rename_i p q hp hq
      obtain ⟨d,hd,h⟩:=jg h
      obtain ⟨h1,h⟩:=jK h
      rw [jbi h1] at hd
      rw [Qw hp] at hy;rw [Qw hq] at hz
      exact Mu hd ho hy hz h
     ·split at h
      ·rename_i p q hp hq
       rw [Uu hp] at hy;rw [Uu hq] at hz
       exact jb6 ho hy hz h
      ·exact jca ho hy hz h
def qUn (L:SLS tb) (G:Gd) (op:UnOp) (y:Operand) (k:SV tb->List Nat->Option ρ):Option ρ:=
 got (opd L G y) fun a=>match op with
 | .not=>got (QF a) fun b=>Let (!b) fun t=>k (.bo t) []
 | .neg=>got (asI a) fun p=>Let (p.1.wrap (0 - p.2)) fun n=>k (.i p.1 n) []
 | _=>none
theorem qUn_ok {L:SLS tb} {G o op t y} {k:SV tb->List Nat->Option ρ} {r} (ho:o.op=.unOp op t y) (h:qUn L G op y k=some r):QOk P L G o k r:=by
 unfold qUn at h
 obtain ⟨a,ha,h⟩:=jg h
 have hy:=fun u=>jY (L:=L) (G:=G) u ha
 split at h
 ·obtain ⟨p,hp,h⟩:=jg h
  rw [Qw hp] at hy
  exact ⟨_,[],h,fun u=>QEx.not ho (hy u)⟩
 ·obtain ⟨p,hp,h⟩:=jg h
  rw [zI hp] at hy
  exact ⟨_,[],h,fun u=>QEx.neg ho (hy u)⟩
 ·cases h
/-! conversions -/
def vz:TypeDesc->Option IntKind
 | .int k=>some k
 | _=>none
theorem kW {d k} (h:vz d=some k):d=.int k:=by unfold vz at h;split at h;cases h;rfl;cases h
def jeV:IntKind->Bool
 | .i64=>true
 | .u64=>true
 | .i32=>true
 | .u32=>true
 | .u16=>true
 | .i16=>true
 | _=>false
theorem jeU {k} (h:jeV k=true):k=.i64\/k=.u64\/k=.i32\/k=.u32\/k=.u16\/k=.i16:=by
 unfold jeV at h;split at h <;> simp at h ⊢
def jfY:IntKind->Bool
 | .u8=>true
 | _=>false
theorem xo {k} (h:jfY k=true):k=.u8:=by unfold jfY at h;split at h;rfl;cases h
def kF:TypeDesc->Bool
 | .string=>true
 | _=>false
theorem QV {d} (h:kF d=true):d=.string:=by unfold kF at h;split at h;rfl;cases h
def Kf:TypeDesc->Option Nat
 | .slice E=>some E
 | _=>none
theorem zl {d E} (h:Kf d=some E):d=.slice E:=by unfold Kf at h;split at h;cases h;rfl;cases h
theorem jb2 {T:Type} {el:T->AV} (h:T=UInt8) (he:∀ x,el x=Jg (cast h x)) (l:List T):l.map el=(cast (congrArg List h) l).map Jg:=by
 subst h;exact List.map_congr_left fun x _=>he x
theorem uz {T:Type} {el:T->AV} (h:T=UInt8) (he:∀ x,el x=Jg (cast h x)) (l:List UInt8):(cast (congrArg List h).symm l).map el=l.map Jg:=by
 subst h;exact List.map_congr_left fun x _=>he x
def bytesOf (tb:Tb) (E:tb.Ix) (l:List (tb.T E)):Option (List UInt8):=match tb.byte with
 | some b=>(match tb.dec E b.1 with | isTrue he=>some (cast (congrArg List ((congrArg tb.T he).trans (Classical.choose b.2))) l) | isFalse _=>none)
 | none=>none
theorem Ww {E l s} (h:bytesOf tb E l=some s):tb.sz E=1/\l.map (tb.el E)=s.map Jg:=by
 unfold bytesOf at h
 split at h
 ·rename_i b _
  split at h
  ·rename_i he _
   cases h
   subst he
   obtain ⟨h1,h2⟩:=Classical.choose_spec b.2
   exact ⟨h1,jb2 (Classical.choose b.2) h2 l⟩
  ·cases h
 ·cases h
def slB (tb:Tb) (s:List UInt8):Option (SV tb):=match tb.byte with
 | some b=>some (.sl false b.1 (cast (congrArg List (Classical.choose b.2)).symm s))
 | none=>none
theorem slB_e {s x} (h:slB tb s=some x):x.av=.sl false 1 (s.map Jg):=by
 unfold slB at h
 split at h
 ·rename_i b _
  cases h
  obtain ⟨h1,h2⟩:=Classical.choose_spec b.2
  show AV.sl false (tb.sz b.1) (List.map (tb.el b.1) _)=_
  rw [h1,uz (Classical.choose b.2) h2]
 ·cases h
def asSl:SV tb->Option ((E:tb.Ix) × List (tb.T E))
 | .sl _ E l=>some ⟨E,l⟩
 | .em E=>some ⟨E,[]⟩
 | _=>none
theorem asSl_e {x:SV tb} {p} (h:asSl x=some p):∃ c,x.av=.sl c (tb.sz p.1) (p.2.map (tb.el p.1)):=by
 unfold asSl at h;split at h
 ·cases h;exact ⟨_,rfl⟩
 ·cases h;exact ⟨_,rfl⟩
 ·cases h
def isNil:SV tb->Bool
 | .con (.slice none 0 0)=>true
 | _=>false
theorem Wd {x:SV tb} (h:isNil x=true):x.av=.v (.slice none 0 0):=by
 unfold isNil at h;split at h
 ·rfl
 ·cases h
def jfr (P:Program) (L:SLS tb) (G:Gd) (s d:Nat) (y:Operand) (k:SV tb->List Nat->Option ρ):Option ρ:=
 got (opd L G y) fun a=>got (P.underlying d) fun D=>got (P.underlying s) fun S=>match vz D with
 | some kd=>(match asI a with
   | some p=>(match jfY kd with
     | true=>Let (toByte p.2) fun n=>k (.b8 n) []
     | false=>Let (kd.wrap p.2) fun n=>k (.i kd n) [])
   | none=>got (asC a) fun c=>tst (jeV kd) (Let (c.toNat:Int) fun n=>k (.i kd n) []))
 | none=>match kF D with
   | true=>got (Kf S) fun E=>got (P.underlying E) fun ED=>got (vz ED) fun ke=>tst (jfY ke) (match isNil a with
     | true=>k (.st []) []
     | false=>got (asSl a) fun p=>got (bytesOf tb p.1 p.2) fun bs=>k (.st bs) [])
   | false=>tst (kF S) <| got (Kf D) fun E=>got (P.underlying E) fun ED=>got (vz ED) fun ke=>tst (jfY ke) (got (asS a) fun st=>got (slB tb st) fun x=>k x [])
theorem jcX {L:SLS tb} {G o s d y} {k:SV tb->List Nat->Option ρ} {r} (ho:o.op=.convert s d y) (h:jfr P L G s d y k=some r):QOk P L G o k r:=by
 unfold jfr at h
 obtain ⟨a,ha,h⟩:=jg h
 obtain ⟨D,hD,h⟩:=jg h
 obtain ⟨S,hS,h⟩:=jg h
 have hy:=fun u=>jY (L:=L) (G:=G) u ha
 have hSs:(P.underlying s).isSome=true:=by rw [hS];rfl
 split at h
 ·rename_i kd hkd
  rw [kW hkd] at hD
  split at h
  ·rename_i p hp
   rw [zI hp] at hy
   split at h
   ·rename_i hu
    rw [xo hu] at hD
    exact ⟨_,[],h,fun u=>QEx.cvKC ho hD hSs (hy u)⟩
   ·exact ⟨_,[],h,fun u=>QEx.jgs ho hD hSs (hy u)⟩
  ·obtain ⟨c,hc,h⟩:=jg h
   obtain ⟨hw,h⟩:=jK h
   rw [jd0 hc] at hy
   exact ⟨_,[],h,fun u=>QEx.cvCK ho hD hSs (hy u) (jeU hw)⟩
 ·split at h
  ·rename_i hs
   obtain ⟨E,hE,h⟩:=jg h
   obtain ⟨ED,hED,h⟩:=jg h
   obtain ⟨ke,hke,h⟩:=jg h
   obtain ⟨hu,h⟩:=jK h
   rw [QV hs] at hD
   rw [zl hE] at hS
   rw [kW hke,xo hu] at hED
   split at h
   ·rename_i hn
    refine ⟨_,[],h,fun u=>?_⟩
    have h1:jF L.E y (.sl true 1 []):=(hy u).sub (by rw [Wd hn];exact .nil)
    exact QEx.PV (bs:=[]) ho hS hED hD h1 rfl
   ·obtain ⟨p,hp,h⟩:=jg h
    obtain ⟨bs,hbs,h⟩:=jg h
    obtain ⟨c,hc⟩:=asSl_e hp
    obtain ⟨h1,h2⟩:=Ww hbs
    rw [hc,h1] at hy
    exact ⟨_,[],h,fun u=>QEx.PV ho hS hED hD (hy u) h2⟩
  ·obtain ⟨hs,h⟩:=jK h
   obtain ⟨E,hE,h⟩:=jg h
   obtain ⟨ED,hED,h⟩:=jg h
   obtain ⟨ke,hke,h⟩:=jg h
   obtain ⟨hu,h⟩:=jK h
   obtain ⟨st,hst,h⟩:=jg h
   obtain ⟨x,hx,h⟩:=jg h
   rw [QV hs] at hS
   rw [zl hE] at hD
   rw [kW hke,xo hu] at hED
   rw [Uu hst] at hy
   refine ⟨_,[],h,fun u=>?_⟩
   rw [slB_e hx]
   exact QEx.jcK ho hS hD hED (hy u)
/-! lengths -/
def qLen (P:Program) (L:SLS tb) (G:Gd) (y:Operand) (t:Nat) (k:SV tb->List Nat->Option ρ):Option ρ:=
 got (opd L G y) fun a=>got (P.underlying t) fun D=>match kF D with
 | true=>got (asS a) fun s=>Let (s.length:Int) fun n=>k (.i .i64 n) []
 | false=>got (Kf D) fun _=>match isNil a with
   | true=>k (.i .i64 0) []
   | false=>match a with
     | .sl _ _ l=>Let (l.length:Int) fun n=>k (.i .i64 n) []
     | .row _ _ _ len _=>k (.i .i64 len) []
     | _=>none
theorem jfn {L:SLS tb} {G o y t} {k:SV tb->List Nat->Option ρ} {r} (ho:o.op=.call { callee:=.builtin .len,args:=#[y],argTypes:=#[t] }) (h:qLen P L G y t k=some r):QOk P L G o k r:=by
 unfold qLen at h
 obtain ⟨a,ha,h⟩:=jg h
 obtain ⟨D,hD,h⟩:=jg h
 have hy:=fun u=>jY (L:=L) (G:=G) u ha
 split at h
 ·rename_i hs
  obtain ⟨s,hs2,h⟩:=jg h
  rw [QV hs] at hD
  rw [Uu hs2] at hy
  exact ⟨_,[],h,fun u=>QEx.lenStr ho hD (hy u)⟩
 ·obtain ⟨E,hE,h⟩:=jg h
  rw [zl hE] at hD
  split at h
  ·rename_i hn
   refine ⟨_,[],h,fun u=>?_⟩
   have h1:jF L.E y (.sl true 1 []):=(hy u).sub (by rw [Wd hn];exact .nil)
   exact QEx.len ho ⟨_,hD⟩ h1
  ·split at h
   ·refine ⟨_,[],h,fun u=>?_⟩
    have:=QEx.len ho ⟨_,hD⟩ (hy u)
    rw [List.length_map] at this
    exact this
   ·exact ⟨_,[],h,fun u=>QEx.lenR ho hD ((hy u).r (by simp [ho,Op.operands,Call.operands]))⟩
   ·cases h
def qMM (L:SLS tb) (G:Gd) (mx:Bool) (x y:Operand) (k:SV tb->List Nat->Option ρ):Option ρ:=
 got (opd L G x) fun a=>got (opd L G y) fun b=>got (asI a) fun p=>got (asI b) fun q=>tst (decide (p.1=q.1)) (match mx with
 | true=>Let (max p.2 q.2) fun n=>k (.i p.1 n) []
 | false=>Let (min p.2 q.2) fun n=>k (.i p.1 n) [])
/-! picks -/
def gdAt (e:ka tb) (t:Nat) (w:Bool):Option Gd:=match find t e with
 | some (.opt G' y)=>(match G' with
   | []=>none
   | _::_=>match QF y with | some b=>some ((t,w,b)::G') | none=>none)
 | some y=>(match QF y with | some b=>some [(t,w,b)] | none=>none)
 | none=>none
theorem gdAt_e {e:ka tb} {t w G} (hi:GInv e) (h:gdAt e t w=some G):∃ b G',G=(t,w,b)::G'/\GD e G:=by
 unfold gdAt at h
 split at h
 ·rename_i G' y hf
  split at h
  ·cases h
  ·rename_i g G'
   split at h
   ·rename_i b hb
    cases h
    exact ⟨b,g::G',rfl,(hi _ _ _ hf).1,y,hb,.inr ⟨hf,by simp⟩⟩
   ·cases h
 ·rename_i y hne hf
  split at h
  ·rename_i b hb
   cases h
   exact ⟨b,[],rfl,trivial,y,hb,.inl ⟨hf,rfl⟩⟩
  ·cases h
 ·cases h
def gdOp (L:SLS tb) (G:Gd) (w:Bool):Operand->Option Gd
 | .tmp t=>gdAt L.e t w
 | _=>some G
def conB:SV tb->Option Bool
 | .con (.bool t)=>some t
 | _=>none
theorem conB_e {x:SV tb} {t} (h:conB x=some t):x.av=bAV t:=by
 unfold conB at h
 split at h
 ·cases h;rfl
 ·cases h
def pZ (L:SLS tb) (G:Gd) (c y z:Operand) (k:SV tb->List Nat->Option ρ):Option ρ:=
 got (opd L G c) fun a=>got (QF a) fun t=>got (gdOp L G true c) fun G1=>got (gdOp L G false c) fun G2=>
 got (opd L G1 y) fun b=>got (QF b) fun s=>got (opd L G2 z) fun d=>got (QF d) fun r=>Let (cond t s r) fun t=>k (.bo t) []
theorem jew {L:SLS tb} {G G1:Gd} {w c a t} (u:Gu L G) (ha:opd L G c=some a) (hb:QF a=some t) (h:gdOp L G w c=some G1) (ht:t=w):Gu L G1:=by
 unfold gdOp at h
 split at h
 ·rename_i s
  obtain ⟨b,G',rfl,hg⟩:=gdAt_e u.inv h
  refine ⟨u.inv,hg,?_⟩
  rw [Mg]
  simp only [gc0,Bool.and_eq_true,beq_iff_eq]
  obtain ⟨h1,y,hy,h2⟩:=hg
  simp only [opd] at ha
  rcases h2 with ⟨h2,rfl⟩ | ⟨h2,h3⟩
  ·rw [h2] at ha
   have hyo:∀ G x,y≠.opt G x:=by rintro G x rfl;cases hy
   split at ha
   ·rename_i heq;cases heq;exact absurd rfl (hyo _ _)
   ·rename_i heq;cases heq;cases ha
    rw [Vq hy,hy] at hb;cases hb
    exact ⟨rfl,ht⟩
   ·rename_i heq;cases heq
  ·rw [h2] at ha
   simp only at ha
   split at ha
   ·rename_i hs
    cases ha
    rw [Vq hy,hy] at hb;cases hb
    refine ⟨?_,ht⟩
    rw [<- Mg]
    exact XK u.gd h1 hs u.on
   ·cases ha
 ·cases h;exact u
theorem xb {L:SLS tb} {G o c y z} {k:SV tb->List Nat->Option ρ} {r} (ho:o.op=.pick c y z) (h:pZ L G c y z k=some r):QOk P L G o k r:=by
 unfold pZ at h
 obtain ⟨a,ha,h⟩:=jg h
 obtain ⟨t,ht,h⟩:=jg h
 obtain ⟨G1,hG1,h⟩:=jg h
 obtain ⟨G2,hG2,h⟩:=jg h
 obtain ⟨b,hb,h⟩:=jg h
 obtain ⟨s,hs,h⟩:=jg h
 obtain ⟨d,hd,h⟩:=jg h
 obtain ⟨q,hq,h⟩:=jg h
 refine ⟨_,[],h,fun u=>QEx.pick ho ?_ ?_ ?_⟩
 ·have:=jY u ha;rwa [Qw ht] at this
 ·intro h1;have:=jY (jew u ha ht hG1 h1) hb;rwa [Qw hs] at this
 ·intro h1;have:=jY (jew u ha ht hG2 h1) hd;rwa [Qw hq] at this
def jee (L:SLS tb) (t:Bool) (y z:Operand) (k:SV tb->List Nat->Option ρ):Option ρ:=match t with
 | true=>got (opd L [] y) fun b=>got (QF b) fun _=>k b []
 | false=>got (opd L [] z) fun b=>got (QF b) fun _=>k b []
def jfh (L:SLS tb) (G:Gd) (c y z:Operand) (k:SV tb->List Nat->Option ρ):Option ρ:=match G with
 | []=>(match (opd L [] c).bind conB with
   | some t=>jee L t y z k
   | none=>pZ L [] c y z k)
 | _::_=>pZ L G c y z k
theorem jcS {L:SLS tb} {G o c y z} {k:SV tb->List Nat->Option ρ} {r} (ho:o.op=.pick c y z) (h:jfh L G c y z k=some r):QOk P L G o k r:=by
 unfold jfh at h
 split at h
 ·split at h
  ·rename_i t ht
   obtain ⟨a,ha,hb⟩:=Option.bind_eq_some_iff.1 ht
   have hc:=fun u=>jY (L:=L) (G:=[]) u ha
   rw [conB_e hb] at hc
   unfold jee at h
   split at h
   ·obtain ⟨b,hb,h⟩:=jg h
    obtain ⟨s,hs,h⟩:=jg h
    refine ⟨_,[],h,fun u=>?_⟩
    have hy:=jY u hb
    rw [Qw hs] at hy
    rw [Qw hs]
    exact QEx.pick (t:=true) (s:=s) (r:=s) ho (hc u) (fun _=>hy) (fun h=>by cases h)
   ·obtain ⟨b,hb,h⟩:=jg h
    obtain ⟨s,hs,h⟩:=jg h
    refine ⟨_,[],h,fun u=>?_⟩
    have hy:=jY u hb
    rw [Qw hs] at hy
    rw [Qw hs]
    exact QEx.pick (t:=false) (s:=s) (r:=s) ho (hc u) (fun h=>by cases h) (fun _=>hy)
  ·exact xb ho h
 ·exact xb ho h
def jcU (L:SLS tb) (G:Gd) (y:Operand) (k:SV tb->List Nat->Option ρ):Option ρ:=got (opd L G y) fun a=>k a []
theorem Pb {L:SLS tb} {G o y} {k:SV tb->List Nat->Option ρ} {r} (ho:o.op=.move y\/o.op=.assign y) (h:jcU L G y k=some r):QOk P L G o k r:=by
 unfold jcU at h
 obtain ⟨a,ha,h⟩:=jg h
 rcases ho with ho | ho
 ·exact ⟨_,[],h,fun u=>QEx.move ho (jY u ha)⟩
 ·exact ⟨_,[],h,fun u=>QEx.assign ho (jY u ha)⟩
theorem ZQ {l:List (SV tb)} {i:Nat} {x} (h:l[i]? = some x):(avL l)[i]? = some x.av:=by
 rw [Vu,List.getElem?_map,h];rfl
def nth {α:Type}:List α->Nat->Option α
 | [],_=>none
 | x::_,0=>some x
 | _::l,n+1=>nth l n
theorem mS {α:Type}:∀ (l:List α) (n:Nat),nth l n=l[n]?
 | [],_=>by simp [nth]
 | x::_,0=>rfl
 | _::l,n+1=>by simpa [nth] using mS l n
def qExt (L:SLS tb) (G:Gd) (y:Operand) (i:Nat) (k:SV tb->List Nat->Option ρ):Option ρ:=got (opd L G y) fun a=>match a with
 | .tup l=>got (nth l i) fun x=>k x []
 | _=>none
theorem jfq {L:SLS tb} {G o y i} {k:SV tb->List Nat->Option ρ} {r} (ho:o.op=.extract y i) (h:qExt L G y i k=some r):QOk P L G o k r:=by
 unfold qExt at h
 obtain ⟨a,ha,h⟩:=jg h
 split at h
 ·obtain ⟨x,hx,h⟩:=jg h
  rw [mS] at hx
  exact ⟨_,[],h,fun u=>QEx.extract ho (jY u ha) (ZQ hx)⟩
 ·cases h
end
end
section
open Go.RowKit
variable [GlC]
section
variable {P:Program} {tb:Tb} {ρ:Type}
theorem JX:∀ l:List (SV tb),(avL l).length=l.length
 | []=>rfl
 | x::l=>by simp only [avL,List.length_cons,JX l]
theorem QZ:∀ (l:List (SV tb)) n,avL (l.drop n)=(avL l).drop n:=fun l n=>by rw [Vu,Vu,List.map_drop]
theorem QY:∀ (l:List (SV tb)) n,avL (l.take n)=(avL l).take n:=fun l n=>by rw [Vu,Vu,List.map_take]
def ixd {α:Type} (d:α) (l:List α) (i:Int):α:=@ix α ⟨d⟩ l i
theorem XF {α:Type} {d:α} {l:List α} {i:Int} (h:0<=i/\i<l.length):l[i.toNat]? = some (ixd d l i):=by
 have hlt:i.toNat<l.length:=by omega
 simp [ixd,ix,List.getD,List.getElem?_eq_getElem hlt]
variable {cx:Ctx P tb}
theorem Yo (ok:∀ i,jgM (cx.cd i)) {E:tb.Ix} {l:List (tb.T E)}:∀ x∈l.map (tb.el E),x.cells.length=tb.sz E:=by
 intro x hx
 obtain ⟨y,-,rfl⟩:=List.mem_map.1 hx
 exact (ok E).len y
theorem zd (cx:Ctx P tb) {E:tb.Ix} {l:List (tb.T E)}:(elC tb E l).length=l.length*tb.sz E:=by
 unfold elC;rw [JZ (Yo cx.ok),List.length_map]
theorem jeG (cx:Ctx P tb) {E:tb.Ix} {l:List (tb.T E)} {i:Int} (h:0<=i/\i<l.length):((elC tb E l).drop (i.toNat*tb.sz E)).take (tb.sz E)=avL ((cx.cd E).cs (ixd (cx.cd E).inh l i)):=by
 unfold elC
 rw [jbE (Yo cx.ok) (e:=tb.el E (ixd (cx.cd E).inh l i)) (by rw [List.getElem?_map,XF h];rfl),(cx.ok E).cs]
theorem jbN (cx:Ctx P tb) {E:tb.Ix} {l:List (tb.T E)} {i:Int} {fo sz:Nat} (h:0<=i/\i<l.length) (hf:fo+sz<=tb.sz E):
 ((elC tb E l).drop (i.toNat*tb.sz E+fo)).take sz=avL ((((cx.cd E).cs (ixd (cx.cd E).inh l i)).drop fo).take sz):=by
 rw [QY,QZ,<- jeG cx h,List.drop_take,List.drop_drop,List.take_take,Nat.min_eq_left (by omega)]
theorem xM (cx:Ctx P tb) {E:tb.Ix} {x:tb.T E}:((cx.cd E).cs x).length=tb.sz E:=by
 rw [<- JX,(cx.ok E).cs,(cx.ok E).len]
def zm (K:IntKind):List (SV tb)->List Int
 | []=>[]
 | x::r=>match x with
   | .i k n=>(match decide (k=K) with | true=>n::zm K r | false=>[])
   | .con (.int k n)=>(match decide (k=K) with | true=>n::zm K r | false=>[])
   | _=>[]
def ja8:List (SV tb)->Option IntKind
 | []=>none
 | x::_=>match x with
   | .i k _=>some k
   | .con (.int k _)=>some k
   | _=>none
theorem vA {K:IntKind}:∀ {l:List (SV tb)} {i:Nat},i<(zm K l).length->∃ x,l[i]? = some x/\x.av=.v (.int K ((zm K l).getD i 0))
 | [],i,h=>by simp [zm] at h
 | x :: r,i,h=>by
   have step:∀ n,zm K (x::r)=n::zm K r->x.av=.v (.int K n)->∃ y,(x::r)[i]? = some y/\y.av=.v (.int K ((zm K (x::r)).getD i 0)):=by
    intro n h1 h2
    cases i with
    | zero=>exact ⟨x,rfl,by rw [h1,h2];rfl⟩
    | succ i=>
      rw [h1,List.length_cons] at h
      obtain ⟨y,h3,h4⟩:=vA (K:=K) (l:=r) (i:=i) (by omega)
      exact ⟨y,by simpa using h3,by rw [h4,h1];rfl⟩
   have none_:zm K (x::r)=[]->∃ y,(x::r)[i]? = some y/\y.av=.v (.int K ((zm K (x::r)).getD i 0)):=by
    intro h1;rw [h1] at h;simp at h
   cases x with
   | i k n=>
     by_cases hk:k=K
     ·subst hk;exact step n (by simp [zm]) rfl
     ·exact none_ (by simp [zm,hk])
   | con v=>
     cases v with
     | int k n=>
       by_cases hk:k=K
       ·subst hk;exact step n (by simp [zm]) rfl
       ·exact none_ (by simp [zm,hk])
     | _=>exact none_ rfl
   | _=>exact none_ rfl
def UQ:List (SV tb)->List (List UInt8)
 | []=>[]
 | x::r=>match asS x with
   | some s=>s::UQ r
   | none=>[]
theorem UP:∀ {l:List (SV tb)} {i:Nat},i<(UQ l).length->∃ x,l[i]? = some x/\x.av=sAV ((UQ l).getD i [])
 | [],i,h=>by simp [UQ] at h
 | x :: r,i,h=>by
   unfold UQ at h ⊢
   split at h
   ·rename_i s hs
    cases i with
    | zero=>exact ⟨x,rfl,Uu hs⟩
    | succ i=>
      obtain ⟨y,h3,h4⟩:=UP (l:=r) (i:=i) (by simpa using h)
      exact ⟨y,by simpa using h3,by rw [h4];rfl⟩
   ·simp at h
def WA:List (SV tb)->Bool
 | []=>true
 | x::l=>match x with
   | .agg _=>false
   | .opt _ _=>false
   | .tup _=>false
   | .con v=>(match jA v with | true=>WA l | false=>false)
   | _=>WA l
theorem KK:∀ {l:List (SV tb)},WA l=true->(avL l).flatMap AV.cells=avL l/\∀ x∈avL l,x.cells.length=1
 | [],_=>⟨rfl,by simp [avL]⟩
 | x :: l,h=>by
   have key:WA l=true->x.av.cells=[x.av]->(avL (x::l)).flatMap AV.cells=avL (x::l)/\∀ y∈avL (x::l),y.cells.length=1:=by
    intro h1 h2
    obtain ⟨g1,g2⟩:=KK h1
    refine ⟨?_,?_⟩
    ·simp only [avL,List.flatMap_cons]
     rw [g1,h2];rfl
    ·intro y hy
     simp only [avL,List.mem_cons] at hy
     rcases hy with rfl | hy
     ·rw [h2];rfl
     ·exact g2 y hy
   cases x with
   | agg _=>cases h
   | opt _ _=>cases h
   | tup _=>cases h
   | con v=>
     unfold WA at h
     simp only at h
     split at h
     ·rename_i hv;exact key h rfl
     ·cases h
   | _=>exact key h rfl
def jfm (cx:Ctx P tb) (L:SLS tb) (G:Gd) (t:Nat) (y:Operand) (k:SV tb->List Nat->Option ρ):Option ρ:=
 got (opd L G y) fun a=>got (tAg P t) fun ag=>match a with
 | .cp l=>(match ag with
   | true=>got (tSz P t) fun n=>tst (Nat.beq n l.length) (k (.agg l) [])
   | false=>match l with | [x]=>k x [] | _=>none)
 | .ptr id off=>got (Zg L id) fun l=>(match ag with
   | true=>got (tSz P t) fun n=>tst (Nat.ble (off+n) l.length) (k (.agg ((l.drop off).take n)) [id])
   | false=>got (nth l off) fun x=>k x [id])
 | .epr id E i fo=>(match QL L id E with
   | some l=>chk G (0<=i/\i<l.length) (Let (ixd (cx.cd E).inh l i) fun x=>match ag with
     | true=>got (tSz P t) fun n=>tst (Nat.ble (fo+n) (tb.sz E)) (k (.agg ((((cx.cd E).cs x).drop fo).take n)) [id])
     | false=>got (nth ((cx.cd E).cs x) fo) fun y=>k y [id])
   | none=>tst (!ag) <| tst (Nat.beq (tb.sz E) 1) <| got (Zg L id) fun l=>got (ja8 (l.drop fo)) fun K=>chk G (0<=i/\i<(zm K (l.drop fo)).length) (Let (ixd 0 (zm K (l.drop fo)) i) fun x=>k (.i K x) [id]))
 | _=>none
theorem jcV {L:SLS tb} {G o t y} {k:SV tb->List Nat->Option ρ} {r} (ho:o.op=.load t y) (h:jfm cx L G t y k=some r):QOk P L G o k r:=by
 unfold jfm at h
 obtain ⟨a,ha,h⟩:=jg h
 obtain ⟨ag,hag,h⟩:=jg h
 have hy:=fun u=>jY (L:=L) (G:=G) u ha
 split at h
 ·split at h
  ·obtain ⟨n,hn,h⟩:=jg h
   obtain ⟨h1,h⟩:=jK h
   exact ⟨_,[],h,fun u=>QEx.jfM ho hag (by rw [hn,Nat.eq_of_beq_eq_true h1,JX]) (hy u)⟩
  ·split at h
   ·exact ⟨_,[],h,fun u=>QEx.load1 ho hag (hy u)⟩
   ·cases h
 ·obtain ⟨l,hl,h⟩:=jg h
  have hl:=zA hl
  split at h
  ·obtain ⟨n,hn,h⟩:=jg h
   obtain ⟨h1,h⟩:=jK h
   refine ⟨_,_,h,fun u=>?_⟩
   rw [JT hl]
   have:=QEx.loadP (l:=avL l) ho hag hn (hy u) (by rw [JX];exact Nat.le_of_ble_eq_true h1)
   simp only [SV.av]
   rw [QY,QZ];exact this
  ·obtain ⟨x,hx,h⟩:=jg h
   rw [mS] at hx
   refine ⟨_,_,h,fun u=>?_⟩
   rw [JT hl]
   exact QEx.jaZ ho hag (hy u) (ZQ hx)
 ·rename_i id E i fo _
  split at h
  ·rename_i l hl
   have hl:=YF hl
   obtain ⟨hc,h⟩:=Qg h
   change (match ag with | true=>_ | false=>_)=_ at h
   split at h
   ·obtain ⟨n,hn,h⟩:=jg h
    obtain ⟨h1,h⟩:=jK h
    have h1:=Nat.le_of_ble_eq_true h1
    refine ⟨_,_,h,fun u=>?_⟩
    rw [JT hl]
    have hc:=hc u.on
    have hlt:i.toNat+1<=l.length:=by omega
    have:=QEx.loadP (l:=elC tb E l) ho hag hn (hy u) (by
     rw [zd cx]
     have:=Nat.mul_le_mul_right (tb.sz E) hlt
     rw [Nat.add_mul] at this;omega)
    rw [jbN cx hc h1] at this
    exact this
   ·obtain ⟨x,hx,h⟩:=jg h
    rw [mS] at hx
    refine ⟨_,_,h,fun u=>?_⟩
    rw [JT hl]
    have hc:=hc u.on
    have hlt:fo<tb.sz E:=by
     have:fo<((cx.cd E).cs (ixd (cx.cd E).inh l i)).length:=by
      rcases Nat.lt_or_ge fo ((cx.cd E).cs (ixd (cx.cd E).inh l i)).length with h | h
      ·exact h
      ·rw [List.getElem?_eq_none h] at hx;cases hx
     rwa [xM cx] at this
    refine QEx.jaZ (l:=elC tb E l) ho hag (hy u) ?_
    have h2:=congrArg (fun z:List AV=>z[0]?) (jbN cx (l:=l) (fo:=fo) (sz:=1) hc hlt)
    have h3:(avL ((((cx.cd E).cs (ixd (cx.cd E).inh l i)).drop fo).take 1))[0]? = some x.av:=ZQ (by rw [List.getElem?_take_of_lt (by omega),List.getElem?_drop];simpa using hx)
    rw [h3,List.getElem?_take_of_lt (by omega),List.getElem?_drop,Nat.add_zero] at h2
    exact h2
  ·obtain ⟨h1,h⟩:=jK h
   obtain ⟨h2,h⟩:=jK h
   obtain ⟨l,hl,h⟩:=jg h
   obtain ⟨K,hK,h⟩:=jg h
   obtain ⟨hc,h⟩:=Qg h
   have h:=(show k (.i K (ixd 0 (zm K (l.drop fo)) i)) [id]=some r from h)
   have hl:=zA hl
   refine ⟨_,_,h,fun u=>?_⟩
   rw [JT hl]
   have hc:=hc u.on
   have hag':ag=false:=by simpa using h1
   rw [hag'] at hag
   obtain ⟨x,hx,hxa⟩:=vA (K:=K) (l:=l.drop fo) (i:=i.toNat) (by omega)
   have hx':l[i.toNat*tb.sz E+fo]? = some x:=by
    rw [List.getElem?_drop] at hx
    rw [Nat.eq_of_beq_eq_true h2,Nat.mul_one,Nat.add_comm];exact hx
   have:=QEx.jaZ ho hag (hy u) (ZQ hx')
   rw [hxa] at this
   exact this
 ·cases h
def jdl:TypeDesc->Option (Array Field)
 | .struct fs=>some fs
 | _=>none
theorem jbd {d E} (h:jdl d=some E):d=.struct E:=by unfold jdl at h;split at h;cases h;rfl;cases h
def xp:TypeDesc->Option (Nat × Nat)
 | .array n E=>some (n,E)
 | _=>none
theorem Ve {d p} (h:xp d=some p):d=.array p.1 p.2:=by unfold xp at h;split at h;cases h;rfl;cases h
def fieldAt (P:Program) (t f:Nat):Option (Field × Nat):=got (P.underlying t) fun D=>got (jdl D) fun fs=>got (fs[f]?) fun fd=>got (tSz P fd.type) fun n=>tst (Nat.ble 1 n) (some (fd,n))
theorem xD {t f p} (h:fieldAt P t f=some p):∃ fs,P.underlying t=some (.struct fs)/\fs[f]? = some p.1/\tSz P p.1.type=some p.2/\0<p.2:=by
 unfold fieldAt at h
 obtain ⟨D,hD,h⟩:=jg h
 obtain ⟨fs,hfs,h⟩:=jg h
 obtain ⟨fd,hfd,h⟩:=jg h
 obtain ⟨n,hn,h⟩:=jg h
 obtain ⟨h1,h⟩:=jK h
 cases h
 rw [jbd hfs] at hD
 exact ⟨fs,hD,hfd,hn,Nat.le_of_ble_eq_true h1⟩
def Xo (P:Program) (L:SLS tb) (G:Gd) (t:Nat) (y:Operand) (f:Nat) (k:SV tb->List Nat->Option ρ):Option ρ:=
 got (opd L G y) fun a=>got (fieldAt P t f) fun p=>match a with
 | .cp l=>k (.cp ((l.drop p.1.offset).take p.2)) []
 | .ptr id off=>k (.ptr id (off+p.1.offset)) []
 | .epr id E i fo=>k (.epr id E i (fo+p.1.offset)) []
 | _=>none
theorem mJ {L:SLS tb} {G o t y f} {k:SV tb->List Nat->Option ρ} {r} (ho:o.op=.fieldAddr t y f) (h:Xo P L G t y f k=some r):QOk P L G o k r:=by
 unfold Xo at h
 obtain ⟨a,ha,h⟩:=jg h
 obtain ⟨p,hp,h⟩:=jg h
 obtain ⟨fs,h1,h2,h3,h4⟩:=xD hp
 have hy:=fun u=>jY (L:=L) (G:=G) u ha
 split at h
 ·refine ⟨_,[],h,fun u=>?_⟩
  have:=QEx.fieldC ho h1 h2 h3 h4 (hy u)
  simp only [SV.av];rw [QY,QZ];exact this
 ·exact ⟨_,[],h,fun u=>QEx.jeC ho h1 h2 h3 h4 (hy u)⟩
 ·refine ⟨_,[],h,fun u=>?_⟩
  have:=QEx.jeC ho h1 h2 h3 h4 (hy u)
  simp only [SV.av] at this ⊢
  rw [Nat.add_assoc] at this;exact this
 ·cases h
def VX (P:Program) (t sz:Nat):Option (Nat × Nat):=got (P.underlying t) fun D=>got (Kf D) fun E=>got (P.info? E) fun i=>got i.zero fun z=>
 tst (Nat.beq i.size sz) <| tst (Nat.beq z.cells.size sz) <| tst (z.cells.toList.all jA) <| tst (Nat.ble 1 sz) (some (E,i.bytes))
theorem Ze {t sz p} (h:VX P t sz=some p):Zm P t p.1 sz p.2:=by
 unfold VX at h
 obtain ⟨D,hD,h⟩:=jg h
 obtain ⟨E,hE,h⟩:=jg h
 obtain ⟨i,hi,h⟩:=jg h
 obtain ⟨z,hz,h⟩:=jg h
 obtain ⟨h1,h⟩:=jK h
 obtain ⟨h2,h⟩:=jK h
 obtain ⟨h3,h⟩:=jK h
 obtain ⟨h4,h⟩:=jK h
 cases h
 rw [zl hE] at hD
 exact ⟨hD,⟨i,z,hi,hz,Nat.eq_of_beq_eq_true h1,rfl,Nat.eq_of_beq_eq_true h2,h3⟩,Nat.le_of_ble_eq_true h4⟩
def isArr:Option (SC tb)->Bool
 | some (.arr _ _)=>true
 | _=>false
def qIxA (cx:Ctx P tb) (L:SLS tb) (G:Gd) (t:Nat) (y z:Operand) (k:SV tb->List Nat->Option ρ):Option ρ:=
 got (opd L G y) fun a=>got (opd L G z) fun b=>got (asI b) fun q=>got (P.underlying t) fun D=>match Kf D with
 | some E'=>got (tSz P E') fun n=>(match a with
   | .sl _ E l=>tst (Nat.beq n (tb.sz E)) <| chk G (0<=q.2/\q.2<l.length) (Let (ixd (cx.cd E).inh l q.2) fun x=>k (.cp ((cx.cd E).cs x)) [])
   | .row id E off len _=>tst (Nat.beq n (tb.sz E)) <| chk G (0<=q.2/\q.2<len) (k (.epr id E ((off:Int)+q.2) 0) [])
   | .rw id E=>(match QL L id E with
     | some l=>tst (Nat.beq n (tb.sz E)) <| chk G (0<=q.2/\q.2<l.length) (k (.epr id E q.2 0) [id])
     | none=>match b with
       | .con _=>got (Zg L id) fun l=>tst (Nat.beq n (tb.sz E)) <| tst (Nat.beq n 1) <| tst (WA l) <| tst (decide (0<=q.2/\q.2<l.length)) (k (.ptr id q.2.toNat) [id])
       | _=>none)
   | _=>none)
 | none=>got (xp D) fun p=>got (tSz P p.2) fun n=>(match a with
   | .ptr id off=>(match b,isArr (find id L.h) with
     | .con _,false=>tst (decide (0<=q.2/\q.2<p.1)) (k (.ptr id (off+q.2.toNat*n)) [])
     | _,_=>match find id L.h with
       | some (.arr E _)=>tst (Nat.beq n (tb.sz E)) <| tst (Nat.beq off 0) <| chk G (0<=q.2/\q.2<p.1) (k (.epr id E q.2 0) [])
       | some (.cells _)=>got (tb.look p.2) fun E=>tst (Nat.beq n (tb.sz E)) <| chk G (0<=q.2/\q.2<p.1) (k (.epr id E q.2 off) [])
       | _=>none)
   | .cp l=>(match b with
     | .con _=>tst (decide (0<=q.2/\q.2<p.1)) (k (.cp ((l.drop (q.2.toNat*n)).take n)) [])
     | _=>got (ja8 l) fun K=>tst (Nat.beq n 1) <| tst (Nat.ble p.1 (zm K l).length) <| chk G (0<=q.2/\q.2<p.1) (Let (ixd 0 (zm K l) q.2) fun x=>k (.cp [.i K x]) []))
   | _=>none)
theorem jfp {L:SLS tb} {G o t y z} {k:SV tb->List Nat->Option ρ} {r} (ho:o.op=.indexAddr t y z) (h:qIxA cx L G t y z k=some r):QOk P L G o k r:=by
 unfold qIxA at h
 obtain ⟨a,ha,h⟩:=jg h
 obtain ⟨b,hb,h⟩:=jg h
 obtain ⟨q,hq,h⟩:=jg h
 obtain ⟨D,hD,h⟩:=jg h
 have hy:=fun u=>jY (L:=L) (G:=G) u ha
 have hz:=fun u=>jY (L:=L) (G:=G) u hb
 rw [zI hq] at hz
 split at h
 ·rename_i E' hE
  rw [zl hE] at hD
  obtain ⟨n,hn,h⟩:=jg h
  split at h
  ·rename_i c E l _ _ _ _
   obtain ⟨h1,h⟩:=jK h
   rw [Nat.eq_of_beq_eq_true h1] at hn
   obtain ⟨hc,h⟩:=Qg h
   refine ⟨_,[],h,fun u=>?_⟩
   have hc:=hc u.on
   have:=QEx.indexAddr (x:=tb.el E (ixd (cx.cd E).inh l q.2)) ho hD hn (cx.ok E).pos (hy u) (hz u) hc.1 (by rw [List.getElem?_map,XF hc];rfl)
   simp only [SV.av];rw [(cx.ok E).cs];exact this
  ·rename_i id E off len mc _ _ _ _
   obtain ⟨h1,h⟩:=jK h
   rw [Nat.eq_of_beq_eq_true h1] at hn
   obtain ⟨hc,h⟩:=Qg h
   refine ⟨_,[],h,fun u=>?_⟩
   have hc:=hc u.on
   have:=QEx.jbk (need:=[]) ho hD hn ((hy u).r (by simp [ho,Op.operands])) (hz u) hc.1 hc.2
   simp only [SV.av]
   rw [show ((off:Int)+q.2).toNat*tb.sz E+0=off*tb.sz E+q.2.toNat*tb.sz E by rw [<- Nat.add_mul,Nat.add_zero];congr 1;omega]
   exact this
  ·rename_i id E _ _ _ _
   split at h
   ·rename_i l hl
    have hl:=YF hl
    obtain ⟨h1,h⟩:=jK h
    rw [Nat.eq_of_beq_eq_true h1] at hn
    obtain ⟨hc,h⟩:=Qg h
    refine ⟨_,_,h,fun u=>?_⟩
    have hc:=hc u.on
    rw [JT hl]
    have:=QEx.jbk ho hD hn (ROk.rw (xs:=l.map (tb.el E)) (hy u) (by simp [ho,Op.operands]) (show _∈[(id,elC tb E l)] from List.mem_singleton.2 rfl) (Yo cx.ok) (cx.ok E).pos) (hz u) hc.1 (by rw [List.length_map];exact hc.2)
    rw [Nat.zero_add] at this
    exact this
   ·split at h
    ·obtain ⟨l,hl,h⟩:=jg h
     have hl:=zA hl
     obtain ⟨h1,h⟩:=jK h
     obtain ⟨h2,h⟩:=jK h
     obtain ⟨h3,h⟩:=jK h
     obtain ⟨h4,h⟩:=jK h
     have h1:=Nat.eq_of_beq_eq_true h1
     have h2:=Nat.eq_of_beq_eq_true h2
     have h4:=of_decide_eq_true h4
     obtain ⟨g1,g2⟩:=KK h3
     refine ⟨_,_,h,fun u=>?_⟩
     rw [JT hl]
     have hyu:=hy u
     simp only [SV.av] at hyu
     rw [<- h1,h2] at hyu
     rw [h2] at hn
     have:=QEx.jbk ho hD hn (ROk.rw (xs:=avL l) hyu (by simp [ho,Op.operands]) (show _∈[(id,avL l)] from by rw [g1];exact List.mem_singleton.2 rfl) g2 (by decide)) (hz u) h4.1 (by rw [JX];exact h4.2)
     rw [Nat.zero_add,Nat.mul_one] at this
     exact this
    ·cases h
  ·cases h
 ·obtain ⟨p,hp,h⟩:=jg h
  rw [Ve hp] at hD
  obtain ⟨n,hn,h⟩:=jg h
  split at h
  ·rename_i id off _ _ _ _
   split at h
   ·obtain ⟨h1,h⟩:=jK h
    have h1:=of_decide_eq_true h1
    exact ⟨_,[],h,fun u=>QEx.jbl ho hD hn (hy u) (hz u) h1.1 h1.2⟩
   ·split at h
    ·rename_i E l hf
     obtain ⟨h1,h⟩:=jK h
     obtain ⟨h2,h⟩:=jK h
     obtain ⟨hc,h⟩:=Qg h
     refine ⟨_,[],h,fun u=>?_⟩
     have hc:=hc u.on
     have:=QEx.jbl ho hD hn (hy u) (hz u) hc.1 hc.2
     rw [Nat.eq_of_beq_eq_true h2,Nat.eq_of_beq_eq_true h1,Nat.zero_add] at this
     exact this
    ·obtain ⟨E,hE,h⟩:=jg h
     obtain ⟨h1,h⟩:=jK h
     obtain ⟨hc,h⟩:=Qg h
     refine ⟨_,[],h,fun u=>?_⟩
     have hc:=hc u.on
     have:=QEx.jbl ho hD hn (hy u) (hz u) hc.1 hc.2
     rw [Nat.eq_of_beq_eq_true h1,Nat.add_comm] at this
     exact this
    ·cases h
  ·rename_i l _ _ _ _ _
   split at h
   ·obtain ⟨h1,h⟩:=jK h
    have h1:=of_decide_eq_true h1
    refine ⟨_,[],h,fun u=>?_⟩
    have:=QEx.jeu ho hD hn (hy u) (hz u) h1.1 h1.2
    simp only [SV.av];rw [QY,QZ];exact this
   ·obtain ⟨K,hK,h⟩:=jg h
    obtain ⟨h1,h⟩:=jK h
    obtain ⟨h2,h⟩:=jK h
    obtain ⟨hc,h⟩:=Qg h
    have h:=(show k (.cp [.i K (ixd 0 (zm K l) q.2)]) []=some r from h)
    refine ⟨_,[],h,fun u=>?_⟩
    have hc:=hc u.on
    have h2:=Nat.le_of_ble_eq_true h2
    have:=QEx.jeu ho hD hn (hy u) (hz u) hc.1 hc.2
    obtain ⟨x,hx,hxa⟩:=vA (K:=K) (l:=l) (i:=q.2.toNat) (by omega)
    rw [Nat.eq_of_beq_eq_true h1,Nat.mul_one] at this
    have e1:((avL l).drop q.2.toNat).take 1=[x.av]:=by
     have hlt:q.2.toNat<(avL l).length:=by
      rw [JX]
      rcases Nat.lt_or_ge q.2.toNat l.length with h | h
      ·exact h
      ·rw [List.getElem?_eq_none h] at hx;cases hx
     have:=ZQ hx
     rw [List.getElem?_eq_getElem hlt] at this
     rw [List.drop_eq_getElem_cons hlt]
     simp only [List.take_succ_cons,List.take_zero]
     rw [Option.some.inj this]
    rw [e1,hxa] at this
    exact this
  ·cases h
end
end
section
open Go.RowKit
variable [GlC]
section
variable {P:Program} {tb:Tb} {ρ:Type} {cx:Ctx P tb}
def lenS (l:List (SV tb)):Nat:=l.length
theorem jcA {α:Type} {a:α}:a∈[a]:=List.mem_singleton.2 rfl
def jfo (cx:Ctx P tb) (L:SLS tb) (G:Gd) (y:Operand) (t:Nat) (k:SV tb->List Nat->Option ρ):Option ρ:=
 got (opd L G y) fun a=>match a with
 | .rw id E=>got (P.underlying t) fun D=>got (Kf D) fun _=>(match QL L id E with
   | some l=>Let (l.length:Int) fun n=>k (.i .i64 n) [id]
   | none=>got (Zg L id) fun l=>tst (Nat.beq (tb.sz E) 1) <| tst (WA l) <| k (.con (.int .i64 (lenS l))) [id])
 | _=>qLen P L G y t k
theorem jcW {L:SLS tb} {G o y t} {k:SV tb->List Nat->Option ρ} {r} (ho:o.op=.call { callee:=.builtin .len,args:=#[y],argTypes:=#[t] }) (h:jfo cx L G y t k=some r):QOk P L G o k r:=by
 unfold jfo at h
 obtain ⟨a,ha,h2⟩:=jg h
 have hy:=fun u=>jY (L:=L) (G:=G) u ha
 clear h
 cases a with
 | rw id E=>
   obtain ⟨D,hD,h⟩:=jg h2;clear h2
   obtain ⟨E',hE,h⟩:=jg h
   rw [zl hE] at hD
   split at h
   ·rename_i l hl
    have hl:=YF hl
    refine ⟨_,_,h,fun u=>?_⟩
    rw [JT hl]
    have:=QEx.lenR ho hD (ROk.rw (xs:=l.map (tb.el E)) (hy u) (by simp [ho,Op.operands,Call.operands]) (show _∈[(id,elC tb E l)] from jcA) (Yo cx.ok) (cx.ok E).pos)
    rw [List.length_map] at this
    exact this
   ·obtain ⟨l,hl,h⟩:=jg h
    have hl:=zA hl
    obtain ⟨h1,h⟩:=jK h
    obtain ⟨h2,h⟩:=jK h
    obtain ⟨g1,g2⟩:=KK h2
    refine ⟨_,_,h,fun u=>?_⟩
    rw [JT hl]
    have hyu:=hy u
    simp only [SV.av] at hyu
    rw [Nat.eq_of_beq_eq_true h1] at hyu
    have:=QEx.lenR ho hD (ROk.rw (xs:=avL l) hyu (by simp [ho,Op.operands,Call.operands]) (show _∈[(id,avL l)] from by rw [g1];exact jcA) g2 (by decide))
    rw [JX] at this
    exact this
 | _=>exact jfn ho h2
theorem jef {L:SLS tb} {G o b x y ts} {k:SV tb->List Nat->Option ρ} {r} (ho:(b=true/\o.op=.call { callee:=.builtin .max,args:=#[x,y],argTypes:=ts })\/(b=false/\o.op=.call { callee:=.builtin .min,args:=#[x,y],argTypes:=ts }))
 (h:qMM L G b x y k=some r):QOk P L G o k r:=by
 unfold qMM at h
 obtain ⟨a,ha,h⟩:=jg h
 obtain ⟨b,hb,h⟩:=jg h
 obtain ⟨p,hp,h⟩:=jg h
 obtain ⟨q,hq,h⟩:=jg h
 obtain ⟨h1,h⟩:=jK h
 have hx:=fun u=>jY (L:=L) (G:=G) u ha
 have hy:=fun u=>jY (L:=L) (G:=G) u hb
 rw [zI hp] at hx
 rw [zI hq,<- of_decide_eq_true h1] at hy
 rcases ho with ⟨rfl,ho⟩ | ⟨rfl,ho⟩
 ·exact ⟨_,[],h,fun u=>QEx.max2 ho (hx u) (hy u)⟩
 ·exact ⟨_,[],h,fun u=>QEx.min2 ho (hx u) (hy u)⟩
/-! parts -/
def sub {α:Type} (l:List α) (a b:Int):List α:=(l.drop a.toNat).take (b.toNat - a.toNat)
def qIx (cx:Ctx P tb) (L:SLS tb) (G:Gd) (t:Nat) (y z:Operand) (k:SV tb->List Nat->Option ρ):Option ρ:=
 got (opd L G y) fun a=>got (opd L G z) fun b=>got (asI b) fun q=>got (P.underlying t) fun D=>match kF D with
 | true=>got (asS a) fun s=>chk G (0<=q.2/\q.2<s.length) (Let (ix s q.2) fun c=>k (.b8 c) [])
 | false=>got (xp D) fun p=>got (tSz P p.2) fun n=>got (tAg P p.2) fun ag=>tst (!ag) (match a,b with
   | .agg l,.con _=>tst (decide (0<=q.2/\q.2<p.1)) (got (nth l (q.2.toNat*n)) fun x=>k x [])
   | .agg l,_=>(match Nat.ble p.1 (UQ l).length with
     | true=>tst (Nat.beq n 1) <| chk G (0<=q.2/\q.2<p.1) (Let (ixd [] (UQ l) q.2) fun x=>k (.st x) [])
     | false=>got (ja8 l) fun K=>tst (Nat.beq n 1) <| tst (Nat.ble p.1 (zm K l).length) <| chk G (0<=q.2/\q.2<p.1) (Let (ixd 0 (zm K l) q.2) fun x=>k (.i K x) []))
   | _,_=>none)
theorem qIx_ok {L:SLS tb} {G o t y z} {k:SV tb->List Nat->Option ρ} {r} (ho:o.op=.index t y z) (h:qIx cx L G t y z k=some r):QOk P L G o k r:=by
 unfold qIx at h
 obtain ⟨a,ha,h⟩:=jg h
 obtain ⟨b,hb,h⟩:=jg h
 obtain ⟨q,hq,h⟩:=jg h
 obtain ⟨D,hD,h⟩:=jg h
 have hy:=fun u=>jY (L:=L) (G:=G) u ha
 have hz:=fun u=>jY (L:=L) (G:=G) u hb
 rw [zI hq] at hz
 split at h
 ·rename_i hs
  rw [QV hs] at hD
  obtain ⟨s,hs2,h⟩:=jg h
  obtain ⟨hc,h⟩:=Qg h
  rw [Uu hs2] at hy
  exact ⟨_,[],h,fun u=>QEx.idxS ho hD (hy u) (hz u) (hc u.on)⟩
 ·obtain ⟨p,hp,h⟩:=jg h
  obtain ⟨n,hn,h⟩:=jg h
  obtain ⟨ag,hag,h⟩:=jg h
  obtain ⟨h1,h5⟩:=jK h
  rw [Ve hp] at hD
  have:ag=false:=by cases ag <;> simp_all
  rw [this] at hag
  clear h
  split at h5
  ·obtain ⟨h2,h3⟩:=jK h5
   obtain ⟨x,hx,h4⟩:=jg h3
   rw [mS] at hx
   exact ⟨_,[],h4,fun u=>QEx.idxA ho hD hn hag (hy u) (hz u) (of_decide_eq_true h2) (ZQ hx)⟩
  ·rename_i l _ _ _ _ _ _
   split at h5
   ·rename_i hb
    obtain ⟨h1,h⟩:=jK h5
    obtain ⟨hc,h⟩:=Qg h
    have h:=(show k (.st (ixd [] (UQ l) q.2)) []=some r from h)
    refine ⟨_,[],h,fun u=>?_⟩
    have hc:=hc u.on
    have h2:=Nat.le_of_ble_eq_true hb
    obtain ⟨x,hx,hxa⟩:=UP (l:=l) (i:=q.2.toNat) (by omega)
    have hx':l[q.2.toNat*n]? = some x:=by rw [Nat.eq_of_beq_eq_true h1,Nat.mul_one];exact hx
    have:=QEx.idxA ho hD hn hag (hy u) (hz u) hc (ZQ hx')
    rw [hxa] at this
    exact this
   obtain ⟨K,hK,h⟩:=jg h5
   obtain ⟨h1,h⟩:=jK h
   obtain ⟨h2,h⟩:=jK h
   obtain ⟨hc,h⟩:=Qg h
   have h:=(show k (.i K (ixd 0 (zm K l) q.2)) []=some r from h)
   refine ⟨_,[],h,fun u=>?_⟩
   have hc:=hc u.on
   have h2:=Nat.le_of_ble_eq_true h2
   obtain ⟨x,hx,hxa⟩:=vA (K:=K) (l:=l) (i:=q.2.toNat) (by omega)
   have hx':l[q.2.toNat*n]? = some x:=by rw [Nat.eq_of_beq_eq_true h1,Nat.mul_one];exact hx
   have:=QEx.idxA ho hD hn hag (hy u) (hz u) hc (ZQ hx')
   rw [hxa] at this
   exact this
  ·cases h5
def jat (P:Program) (L:SLS tb) (G:Gd) (t:Nat) (y:Operand) (f:Nat) (k:SV tb->List Nat->Option ρ):Option ρ:=
 got (opd L G y) fun a=>got (fieldAt P t f) fun p=>got (tAg P p.1.type) fun ag=>match a with
 | .agg l=>(match ag with
   | true=>k (.agg ((l.drop p.1.offset).take p.2)) []
   | false=>got (nth l p.1.offset) fun x=>k x [])
 | _=>none
theorem jas {L:SLS tb} {G o t y f} {k:SV tb->List Nat->Option ρ} {r} (ho:o.op=.field t y f) (h:jat P L G t y f k=some r):QOk P L G o k r:=by
 unfold jat at h
 obtain ⟨a,ha,h⟩:=jg h
 obtain ⟨p,hp,h⟩:=jg h
 obtain ⟨ag,hag,h⟩:=jg h
 obtain ⟨fs,h1,h2,h3,h4⟩:=xD hp
 have hy:=fun u=>jY (L:=L) (G:=G) u ha
 split at h
 ·split at h
  ·refine ⟨_,[],h,fun u=>QEx.field ho h1 h2 h3 hag (hy u) (.inl ⟨rfl,?_⟩)⟩
   simp only [SV.av];rw [QY,QZ]
  ·obtain ⟨x,hx,h⟩:=jg h
   rw [mS] at hx
   exact ⟨_,[],h,fun u=>QEx.field ho h1 h2 h3 hag (hy u) (.inr ⟨rfl,ZQ hx⟩)⟩
 ·cases h
/-! slices -/
def nOr (q:Option Int) (d:Nat):Nat:=match q with | none=>d | some n=>n.toNat
def optI (L:SLS tb) (G:Gd):Option Operand->Option (Option Int)
 | none=>some none
 | some y=>got (opd L G y) fun a=>match asI a with
   | some p=>some (some p.2)
   | none=>got (asC a) fun c=>some (some (c.toNat:Int))
theorem Zb {L:SLS tb} {G y q d} (u:Gu L G) (h:optI L G y=some q) (h0:0<=q.getD 0):zG L.E y d (nOr q d):=by
 cases y with
 | none=>cases h;exact .none
 | some y=>
   obtain ⟨a,ha,h⟩:=jg (h:got (opd L G y) _=_)
   have hy:=jY u ha
   split at h
   ·rename_i p hp
    cases h
    rw [zI hp] at hy
    exact .some hy h0
   ·obtain ⟨c,hc,h⟩:=jg h
    cases h
    rw [jd0 hc] at hy
    exact .some (k:=.u8) hy h0
def cutB {α:Type} (G:Gd) (l:List α) (lo hi:Option Int) (k:List α->Option ρ):Option ρ:=match lo,hi with
 | none,none=>k l
 | some a,none=>chk G (0<=a/\a<=l.length) (Let (l.drop a.toNat) k)
 | none,some b=>chk G (0<=b/\b<=l.length) (Let (l.take b.toNat) k)
 | some a,some b=>chk G (0<=a/\a<=b/\b<=l.length) (Let (sub l a b) k)
theorem jeL {α:Type} {G:Gd} {l:List α} {lo hi:Option Int} {k:List α->Option ρ} {r:ρ} (h:cutB G l lo hi k=some r):∃ x,k x=some r/\(gc G=true->0<=lo.getD 0/\0<=hi.getD 0/\
 nOr lo 0<=nOr hi l.length/\nOr hi l.length<=l.length/\
 x=(l.drop (nOr lo 0)).take (nOr hi l.length - nOr lo 0)):=by
 unfold cutB at h
 split at h
 ·exact ⟨_,h,fun _=>by simp [nOr]⟩
 ·obtain ⟨hc,h⟩:=Qg h
  refine ⟨_,h,fun u=>?_⟩
  obtain ⟨h1,h2⟩:=hc u
  refine ⟨h1,by simp,by simp only [nOr];omega,Nat.le_refl _,?_⟩
  simp only [nOr];rw [List.take_of_length_le (by simp)]
 ·obtain ⟨hc,h⟩:=Qg h
  refine ⟨_,h,fun u=>?_⟩
  obtain ⟨h1,h2⟩:=hc u
  exact ⟨by simp,h1,by simp only [nOr];omega,by simp only [nOr];omega,by simp [nOr]⟩
 ·obtain ⟨hc,h⟩:=Qg h
  refine ⟨_,h,fun u=>?_⟩
  obtain ⟨h1,h2,h3⟩:=hc u
  exact ⟨h1,by simp only [Option.getD_some];omega,by simp only [nOr];omega,by simp only [nOr];omega,rfl⟩
def jar (cx:Ctx P tb) (L:SLS tb) (G:Gd) (t:Nat) (y:Operand) (lo hi:Option Operand) (k:SV tb->List Nat->Option ρ):Option ρ:=
 got (opd L G y) fun a=>got (optI L G lo) fun p=>got (optI L G hi) fun q=>got (P.underlying t) fun D=>match kF D with
 | true=>got (asS a) fun s=>cutB G s p q fun x=>k (.st x) []
 | false=>match a with
   | .sl _ E l=>got (VX P t (tb.sz E)) fun _=>cutB G l p q fun x=>k (.sl false E x) []
   | .row id E off len mc=>got (VX P t (tb.sz E)) fun _=>chk G (0<=p.getD 0/\0<=q.getD 0/\nOr p 0<=nOr q len/\nOr q len<=mc/\len<=mc) (k (.row id E (off+nOr p 0) (nOr q len - nOr p 0) (mc - nOr p 0)) [])
   | .rw id E=>got (VX P t (tb.sz E)) fun _=>got (QL L id E) fun l=>chk G (0<=p.getD 0/\0<=q.getD 0/\nOr p 0<=nOr q l.length/\nOr q l.length<=l.length) (k (.row id E (nOr p 0) (nOr q l.length - nOr p 0) (l.length - nOr p 0)) [id])
   | .ptr id off=>got (xp D) fun ar=>got (tSz P ar.2) fun n=>(match find id L.h with
     | some (.arr E _)=>got (QL L id E) fun l=>tst (Nat.beq off 0) <| tst (Nat.beq n (tb.sz E)) <| chk G (0<=p.getD 0/\0<=q.getD 0/\nOr p 0<=nOr q ar.1/\nOr q ar.1<=ar.1/\ar.1<=l.length) (k (.row id E (nOr p 0) (nOr q ar.1 - nOr p 0) (ar.1 - nOr p 0)) [id])
     | _=>none)
   | _=>none
theorem jaq {L:SLS tb} {G o t y lo hi} {k:SV tb->List Nat->Option ρ} {r} (ho:o.op=.slice t y lo hi none) (h:jar cx L G t y lo hi k=some r):QOk P L G o k r:=by
 unfold jar at h
 obtain ⟨a,ha,h2⟩:=jg h
 clear h
 obtain ⟨p,hp,h⟩:=jg h2;clear h2
 obtain ⟨q,hq,h2⟩:=jg h;clear h
 obtain ⟨D,hD,h⟩:=jg h2;clear h2
 have hy:=fun u=>jY (L:=L) (G:=G) u ha
 split at h
 ·rename_i hs
  rw [QV hs] at hD
  obtain ⟨s,hs2,h⟩:=jg h
  rw [Uu hs2] at hy
  obtain ⟨x,h,hc⟩:=jeL h
  refine ⟨_,[],h,fun u=>?_⟩
  obtain ⟨h1,h2,h3,h4,rfl⟩:=hc u.on
  exact QEx.slStr ho hD (hy u) (Zb u hp h1) (Zb u hq h2) ⟨h3,h4⟩
 ·cases a with
  | sl c E l=>
    obtain ⟨ET,hE,h⟩:=jg h
    obtain ⟨x,h,hc⟩:=jeL h
    refine ⟨_,[],h,fun u=>?_⟩
    obtain ⟨h1,h2,h3,h4,rfl⟩:=hc u.on
    have:=QEx.slice ho (Ze hE) (hy u) (Zb u hp h1) (Zb (d:=(l.map (tb.el E)).length) u hq h2) (by simpa using h3) (by simpa using h4)
    simp only [SV.av,List.map_take,List.map_drop]
    rw [List.length_map] at this;exact this
  | row id E off len mc=>
    obtain ⟨ET,hE,h⟩:=jg h
    obtain ⟨hc,h⟩:=Qg h
    refine ⟨_,[],h,fun u=>?_⟩
    obtain ⟨h1,h2,h3,h4,h5⟩:=hc u.on
    have:=QEx.jd8 (need:=[]) ho (Ze hE) ((hy u).r (by simp [ho,Op.operands])) (Zb u hp h1) (Zb (d:=len) u hq h2) h3 h4 (fun _=>h5)
    simp only [SV.av]
    rw [Nat.add_mul];exact this
  | rw id E=>
    obtain ⟨ET,hE,h⟩:=jg h
    obtain ⟨l,hl,h⟩:=jg h
    have hl:=YF hl
    obtain ⟨hc,h⟩:=Qg h
    refine ⟨_,_,h,fun u=>?_⟩
    obtain ⟨h1,h2,h3,h4⟩:=hc u.on
    rw [JT hl]
    have:=QEx.jd8 ho (Ze hE) (ROk.rw (xs:=l.map (tb.el E)) (hy u) (by simp [ho,Op.operands]) (show _∈[(id,elC tb E l)] from jcA) (Yo cx.ok) (cx.ok E).pos)
     (Zb u hp h1) (Zb (d:=(l.map (tb.el E)).length) u hq h2) (by simpa using h3) (by simpa using h4) (fun _=>Nat.le_refl _)
    rw [List.length_map,Nat.zero_add] at this
    exact this
  | ptr id off=>
    obtain ⟨ar,har,h⟩:=jg h
    rw [Ve har] at hD
    obtain ⟨n,hn,h⟩:=jg h
    split at h
    ·obtain ⟨l,hl,h⟩:=jg h
     have hl:=YF hl
     obtain ⟨h0,h⟩:=jK h
     obtain ⟨h1,h⟩:=jK h
     have h0:=Nat.eq_of_beq_eq_true h0
     rw [Nat.eq_of_beq_eq_true h1] at hn
     obtain ⟨hc,h⟩:=Qg h
     refine ⟨_,_,h,fun u=>?_⟩
     obtain ⟨h1,h2,h3,h4,h5⟩:=hc u.on
     rw [JT hl]
     have:=QEx.sliceA (l:=elC tb _ l) ho hD hn (hy u) (Zb u hp h1) (Zb (d:=ar.1) u hq h2) h3 h4 (by rw [zd cx,h0,Nat.zero_add];exact Nat.mul_le_mul_right _ h5)
     rw [h0,Nat.zero_add] at this
     exact this
    ·cases h
  | _=>cases h
def Xn (P:Program) (L:SLS tb) (G:Gd) (t:Nat) (y hi mx:Operand) (k:SV tb->List Nat->Option ρ):Option ρ:=
 got (opd L G y) fun a=>got (opd L G hi) fun b=>got (asI b) fun p=>got (opd L G mx) fun c=>got (asI c) fun q=>match a with
 | .sl _ E l=>got (VX P t (tb.sz E)) fun _=>chk G (0<=p.2/\p.2<=l.length/\q.2=p.2) (Let (l.take p.2.toNat) fun x=>k (.sl true E x) [])
 | _=>none
theorem QEx.capT {o:Oper} {e:Env} {y t sz l} (ho:o.op=.call { callee:=.builtin .cap,args:=#[y],argTypes:=#[t] }) (ht:∃ E,P.underlying t=some (.slice E)) (hy:jF e y (.sl true sz l)):
 QEx P o e [] (.v (.int .i64 l.length)):=
 .pure fun _ _ _ _ _ ac w _ _ hr=>by
  have h1:=hy.rep hr (by simp [ho,Op.operands,Call.operands])
  obtain ⟨E,hE⟩:=ht
  refine ⟨_,?_,.v⟩
  obtain ⟨ad,n,cap,cs,hv,h2,-,-,-,-,-,h3,-⟩:=Zz h1
  have h3:=h3 rfl
  subst h3
  rw [<- h2]
  simp [execOp,ho,hv,resolve,invoke,builtin,Builtin.cap_,underlying,hE,goInt]
def qCap (P:Program) (L:SLS tb) (G:Gd) (y:Operand) (t:Nat) (k:SV tb->List Nat->Option ρ):Option ρ:=
 got (opd L G y) fun a=>got (P.underlying t) fun D=>got (Kf D) fun _=>match isNil a with
 | true=>k (.i .i64 0) []
 | false=>match a with
   | .em _=>k (.i .i64 0) []
   | .sl true _ l=>Let (l.length:Int) fun n=>k (.i .i64 n) []
   | _=>none
theorem jfs {L:SLS tb} {G o y t} {k:SV tb->List Nat->Option ρ} {r} (ho:o.op=.call { callee:=.builtin .cap,args:=#[y],argTypes:=#[t] }) (h:qCap P L G y t k=some r):QOk P L G o k r:=by
 unfold qCap at h
 obtain ⟨a,ha,h⟩:=jg h
 obtain ⟨D,hD,h⟩:=jg h
 obtain ⟨E,hE,h⟩:=jg h
 rw [zl hE] at hD
 have hy:=fun u=>jY (L:=L) (G:=G) u ha
 split at h
 ·rename_i hn
  refine ⟨_,[],h,fun u=>?_⟩
  have h1:jF L.E y (.sl true 1 []):=(hy u).sub (by rw [Wd hn];exact .nil)
  exact QEx.capT ho ⟨_,hD⟩ h1
 ·split at h
  ·exact ⟨_,[],h,fun u=>QEx.capT ho ⟨_,hD⟩ (hy u)⟩
  ·refine ⟨_,[],h,fun u=>?_⟩
   have:=QEx.capT ho ⟨_,hD⟩ (hy u)
   rw [List.length_map] at this
   exact this
  ·cases h
end
end
section
open Go.RowKit
variable [GlC]
section
variable {P:Program} {tb:Tb} {ρ:Type} {cx:Ctx P tb}
def Ql:SV tb->List (SV tb)
 | .agg l=>l
 | x=>[x]
theorem jbZ (x:SV tb) (h:∀ G y,x≠.opt G y):avL (Ql x)=x.av.cells:=by cases x <;> first | rfl | exact absurd rfl (h _ _)
def wH:SV tb->Bool
 | .agg _=>true
 | .i _ _=>true
 | .b8 _=>true
 | .bo _=>true
 | .st _=>true
 | .con v=>jA v
 | .sl _ _ _=>true
 | .em _=>true
 | .cp _=>true
 | .fn _ _=>true
 | .cl _ _ _ _ _ _=>true
 | .ptr _ _=>true
 | .epr _ _ _ _=>true
 | .row _ _ _ _ _=>true
 | .rw _ _=>true
 | .ifc _ _=>true
 | _=>false
theorem uI {x:SV tb} (h:wH x=true):x.av.ZY=true/\avL (Ql x)=x.av.cells:=by
 refine ⟨?_,jbZ x ?_⟩
 ·cases x <;> first | rfl | (simp [wH] at h;done) | exact h
 ·rintro G y rfl;simp [wH] at h
/-! structs -/
def XM (L:SLS tb) (G:Gd) (pl:Nat->Option (Nat × Nat)):List (Nat × Operand)->List (SV tb)->Option (List (SV tb))
 | [],Z=>some Z
 | (i,y)::r,Z=>got (pl i) fun p=>got (opd L G y) fun x=>tst (wH x) <| tst (Nat.beq (Ql x).length p.2) <| tst (Nat.ble (p.1+p.2) Z.length) <| XM L G pl r (Z.take p.1++Ql x++Z.drop (p.1+p.2))
theorem vE {L:SLS tb} {G pl} (u:Gu L G):∀ {ps:List (Nat × Operand)} {Z Z'},XM L G pl ps Z=some Z'->Kq L.E pl ps (avL Z) (avL Z')
 | [],_,_,h=>by cases h;exact .nil
 | (i,y)::r,Z,Z',h=>by
   unfold XM at h
   obtain ⟨p,hp,h⟩:=jg h
   obtain ⟨x,hx,h⟩:=jg h
   obtain ⟨h1,h⟩:=jK h
   obtain ⟨h2,h⟩:=jK h
   obtain ⟨h3,h⟩:=jK h
   obtain ⟨g1,g2⟩:=uI h1
   refine .cons (off:=p.1) (sz:=p.2) hp (jY u hx) g1 (by rw [<- g2,JX];exact Nat.eq_of_beq_eq_true h2) (by rw [JX];exact Nat.le_of_ble_eq_true h3) ?_
   have:=vE u h
   rwa [JY,JY,QY,QZ,g2] at this
theorem Zs.con:∀ zs:List Value,Zs (avL (tb:=tb) (zs.map SV.con)) zs
 | []=>.nil
 | z::zs=>.v (Zs.con zs)
def mr (P:Program) (t:Nat):Option (List (SV tb)):=got (mw P t) fun zs=>tst (zs.all jA) (some (zs.map SV.con))
theorem vQ {t Z} (h:mr (tb:=tb) P t=some Z):pj P t (avL Z):=by
 obtain ⟨zs,hz,h⟩:=jg h
 obtain ⟨h1,h⟩:=jK h
 cases h
 exact ⟨zs,hz,Zs.con zs,h1⟩
def jaz (P:Program) (L:SLS tb) (G:Gd) (t:Nat) (ps:Array (Nat × Operand)) (k:SV tb->List Nat->Option ρ):Option ρ:=
 got (P.underlying t) fun D=>got (mr P t) fun Z=>match jdl D with
 | some fs=>tst (fs.toList.all fun f=>(tSz P f.type).isSome) <| got (XM L G (Um P fs) ps.toList Z) fun Z'=>k (.agg Z') []
 | none=>got (xp D) fun p=>got (tSz P p.2) fun sz=>got (XM L G (fun i=>some (i*sz,sz)) ps.toList Z) fun Z'=>k (.agg Z') []
theorem jay {L:SLS tb} {G o t ps} {k:SV tb->List Nat->Option ρ} {r} (ho:o.op=.build t ps) (h:jaz P L G t ps k=some r):QOk P L G o k r:=by
 unfold jaz at h
 obtain ⟨D,hD,h⟩:=jg h
 obtain ⟨Z,hZ,h⟩:=jg h
 have hZ:=vQ hZ
 split at h
 ·rename_i fs hfs
  rw [jbd hfs] at hD
  obtain ⟨h1,h⟩:=jK h
  obtain ⟨Z',hZ',h⟩:=jg h
  exact ⟨_,[],h,fun u=>QEx.buildZ ho hD hZ h1 (vE u hZ')⟩
 ·obtain ⟨p,hp,h⟩:=jg h
  rw [Ve hp] at hD
  obtain ⟨sz,hsz,h⟩:=jg h
  obtain ⟨Z',hZ',h⟩:=jg h
  exact ⟨_,[],h,fun u=>QEx.buildA ho hD hsz hZ (vE u hZ')⟩
def PJ (cx:Ctx P tb) (L:SLS tb) (G:Gd) (E:tb.Ix):Nat->List (Nat × Operand)->Option (List (tb.T E))
 | _,[]=>some []
 | i,(j,y)::r=>tst (Nat.beq j i) <| got (opd L G y) fun x=>got ((cx.cd E).of x) fun v=>got (PJ cx L G E (i+1) r) fun l=>some (v::l)
theorem xG {L:SLS tb} {G E} (u:Gu L G):∀ {ps:List (Nat × Operand)} {i l},PJ cx L G E i ps=some l->zF L.E (tb.sz E) i ps (l.map (tb.el E))
 | [],_,_,h=>by cases h;exact .nil
 | (j,y)::r,i,l,h=>by
   unfold PJ at h
   obtain ⟨h1,h⟩:=jK h
   obtain ⟨x,hx,h⟩:=jg h
   obtain ⟨v,hv,h⟩:=jg h
   obtain ⟨l',hl',h⟩:=jg h
   cases h
   obtain rfl:=Nat.eq_of_beq_eq_true h1
   exact .cons ((jY u hx).sub ((cx.ok E).of _ _ hv)) ((cx.ok E).ZY v) ((cx.ok E).len v) ((cx.ok E).bare v).1 (xG u hl')
def Xp (cx:Ctx P tb) (L:SLS tb) (G:Gd) (t n:Nat) (ps:Array (Nat × Operand)) (k:SV tb->List Nat->Option ρ):Option ρ:=
 got (P.underlying t) fun D=>got (Kf D) fun E'=>got (tb.look E') fun E=>got (VX P t (tb.sz E)) fun _=>got (PJ cx L G E 0 ps.toList) fun l=>tst (Nat.beq l.length n) <| tst (Nat.ble (n*tb.sz E) (2 ^ 24)) <| match n with | 0=>k (.em E) [] | _+1=>k (.sl true E l) []
theorem mL {L:SLS tb} {G o t n ps} {k:SV tb->List Nat->Option ρ} {r} (ho:o.op=.buildSlice t n ps) (h:Xp cx L G t n ps k=some r):QOk P L G o k r:=by
 unfold Xp at h
 obtain ⟨D,hD,h⟩:=jg h
 obtain ⟨E',hE',h⟩:=jg h
 obtain ⟨E,hE,h⟩:=jg h
 obtain ⟨p,hp,h⟩:=jg h
 obtain ⟨l,hl,h⟩:=jg h
 obtain ⟨h1,h⟩:=jK h
 obtain ⟨h2,h⟩:=jK h
 have key:=fun u=>QEx.buildSlice ho (Ze hp) (xG u hl) (by rw [List.length_map];exact Nat.eq_of_beq_eq_true h1) (Nat.le_of_ble_eq_true h2)
 have hl0:=Nat.eq_of_beq_eq_true h1
 cases n with
 | zero=>
   have:l=[]:=List.eq_nil_of_length_eq_zero hl0
   subst this
   exact ⟨_,[],h,key⟩
 | succ n=>exact ⟨_,[],h,key⟩
def WR (L:SLS tb) (G:Gd):List Operand->Option (List (SV tb))
 | []=>some []
 | y::r=>got (opd L G y) fun x=>got (WR L G r) fun l=>some (x::l)
theorem zO {L:SLS tb} {G} (u:Gu L G):∀ {ys:List Operand} {l},WR L G ys=some l->Kp L.E ys (avL l)
 | [],_,h=>by cases h;exact .nil
 | y::r,l,h=>by
   unfold WR at h
   obtain ⟨x,hx,h⟩:=jg h
   obtain ⟨l',hl',h⟩:=jg h
   cases h
   exact .cons (jY u hx) (zO u hl')
def qMkF (L:SLS tb) (G:Gd) (fn:Fn) (fi ca:Array Operand) (k:SV tb->List Nat->Option ρ):Option ρ:=match fn,fi.toList with
 | .func f,[]=>got (WR L G ca.toList) fun l=>k (.fn f l) []
 | _,_=>none
theorem jfl {L:SLS tb} {G o fn fi ca} {k:SV tb->List Nat->Option ρ} {r} (ho:o.op=.makeFunc fn fi ca) (h:qMkF L G fn fi ca k=some r):QOk P L G o k r:=by
 unfold qMkF at h
 split at h
 ·rename_i f hfi
  obtain ⟨l,hl,h⟩:=jg h
  exact ⟨_,[],h,fun u=>QEx.mkF ho (by cases fi;simpa using hfi) (zO u hl)⟩
 ·cases h
def qNil (L:SLS tb) (G:Gd) (y:Operand) (k:SV tb->List Nat->Option ρ):Option ρ:=got (opd L G y) fun a=>match a with
 | .cp _=>k .undef []
 | .ptr id off=>k (.ptr id off) []
 | .epr id E i fo=>k (.epr id E i fo) []
 | _=>none
theorem jfj {L:SLS tb} {G o y} {k:SV tb->List Nat->Option ρ} {r} (ho:o.op=.nilCheck y) (h:qNil L G y k=some r):QOk P L G o k r:=by
 unfold qNil at h
 obtain ⟨a,ha,h⟩:=jg h
 have hy:=fun u=>jY (L:=L) (G:=G) u ha
 split at h
 ·exact ⟨_,[],h,fun u=>QEx.nilC ho (hy u)⟩
 ·exact ⟨_,[],h,fun u=>QEx.nilP ho (hy u)⟩
 ·exact ⟨_,[],h,fun u=>QEx.nilP ho (hy u)⟩
 ·cases h
theorem mH {L:SLS tb} {G o t y hi mx} {k:SV tb->List Nat->Option ρ} {r} (ho:o.op=.slice t y none (some hi) (some mx)) (h:Xn P L G t y hi mx k=some r):QOk P L G o k r:=by
 unfold Xn at h
 obtain ⟨a,ha,h⟩:=jg h
 obtain ⟨b,hb,h⟩:=jg h
 obtain ⟨p,hp,h⟩:=jg h
 obtain ⟨c,hc1,h⟩:=jg h
 obtain ⟨q,hq,h⟩:=jg h
 have hy:=fun u=>jY (L:=L) (G:=G) u ha
 have hz:=fun u=>jY (L:=L) (G:=G) u hb
 have hw:=fun u=>jY (L:=L) (G:=G) u hc1
 rw [zI hp] at hz
 rw [zI hq] at hw
 split at h
 ·obtain ⟨ET,hE,h⟩:=jg h
  obtain ⟨hc,h⟩:=Qg h
  refine ⟨_,[],h,fun u=>?_⟩
  obtain ⟨h1,h2,h3⟩:=hc u.on
  rw [h3] at hw
  have:=QEx.slice3 ho (Ze hE) (hy u) (hz u) (hw u) h1 (by rw [List.length_map];exact h2)
  simp only [SV.av,List.map_take];exact this
 ·cases h
def jav (cx:Ctx P tb) (L:SLS tb) (G:Gd) (s d:Nat) (y:Operand) (k:SV tb->List Nat->Option ρ):Option ρ:=
 got (opd L G y) fun a=>match a with
 | .rw id E=>got (P.underlying d) fun D=>got (P.underlying s) fun S=>tst (kF D) <| got (Kf S) fun E'=>got (P.underlying E') fun ED=>got (vz ED) fun ke=>tst (jfY ke) <| got (QL L id E) fun l=>got (bytesOf tb E l) fun bs=>k (.st bs) [id]
 | .row id E off len mc=>got (P.underlying d) fun D=>got (P.underlying s) fun S=>tst (kF D) <| got (Kf S) fun E'=>got (P.underlying E') fun ED=>got (vz ED) fun ke=>tst (jfY ke) <| got (QL L id E) fun l=>chk G (off+len<=l.length) <| got (bytesOf tb E ((l.drop off).take len)) fun bs=>k (.st bs) [id]
 | _=>jfr P L G s d y k
theorem jgk {E:tb.Ix} {l:List (tb.T E)} {bs:List UInt8} (h:l.map (tb.el E)=bs.map Jg):elC tb E l=bs.map Jg:=by
 unfold elC;rw [h,zc]
theorem jau {L:SLS tb} {G o s d y} {k:SV tb->List Nat->Option ρ} {r} (ho:o.op=.convert s d y) (h:jav cx L G s d y k=some r):QOk P L G o k r:=by
 unfold jav at h
 obtain ⟨a,ha,h2⟩:=jg h
 have hy:=fun u=>jY (L:=L) (G:=G) u ha
 clear h
 cases a with
 | rw id E=>
   obtain ⟨D,hD,h⟩:=jg h2;clear h2
   obtain ⟨S,hS,h⟩:=jg h
   obtain ⟨h1,h⟩:=jK h
   obtain ⟨E',hE,h⟩:=jg h
   obtain ⟨ED,hED,h⟩:=jg h
   obtain ⟨ke,hke,h⟩:=jg h
   obtain ⟨h3,h⟩:=jK h
   obtain ⟨l,hl,h⟩:=jg h
   obtain ⟨bs,hbs,h⟩:=jg h
   have hl:=YF hl
   rw [QV h1] at hD
   rw [zl hE] at hS
   rw [kW hke,xo h3] at hED
   obtain ⟨g1,g2⟩:=Ww hbs
   have hlen:l.length=bs.length:=by simpa using congrArg List.length g2
   refine ⟨_,_,h,fun u=>?_⟩
   rw [JT hl]
   have hr:=ROk.rw (o:=o) (need:=[(id,elC tb E l)]) (xs:=l.map (tb.el E)) (hy u) (by simp [ho,Op.operands]) (show _∈[(id,elC tb E l)] from jcA) (Yo cx.ok) (cx.ok E).pos
   rw [g1] at hr
   refine QEx.jd9 ho hS hED hD hr jcA ?_ (by rw [List.length_map,hlen])
   rw [jgk g2,List.drop_zero,List.length_map,hlen,<- List.length_map (f:=Jg),List.take_length]
 | row id E off len mc=>
   obtain ⟨D,hD,h⟩:=jg h2;clear h2
   obtain ⟨S,hS,h⟩:=jg h
   obtain ⟨h1,h⟩:=jK h
   obtain ⟨E',hE,h⟩:=jg h
   obtain ⟨ED,hED,h⟩:=jg h
   obtain ⟨ke,hke,h⟩:=jg h
   obtain ⟨h3,h⟩:=jK h
   obtain ⟨l,hl,h⟩:=jg h
   obtain ⟨hc,h⟩:=Qg h
   obtain ⟨bs,hbs,h⟩:=jg h
   have hl:=YF hl
   rw [QV h1] at hD
   rw [zl hE] at hS
   rw [kW hke,xo h3] at hED
   obtain ⟨g1,g2⟩:=Ww hbs
   refine ⟨_,_,h,fun u=>?_⟩
   have hc:=hc u.on
   rw [JT hl]
   have hr:=(hy u).r (o:=o) (need:=[(id,elC tb E l)]) (by simp [ho,Op.operands])
   simp only [SV.av] at hr
   rw [g1,Nat.mul_one] at hr
   have hlen:bs.length=len:=by
    have:=congrArg List.length g2
    rw [List.length_map,List.length_map,List.length_take,List.length_drop] at this
    omega
   refine QEx.jd9 ho hS hED hD hr jcA ?_ hlen
   rw [<- g2]
   unfold elC
   have h5:=zq (sz:=1) (l:=l.map (tb.el E)) off (by rw [<- g1];exact Yo cx.ok)
   rw [Nat.mul_one] at h5
   rw [h5,<- List.map_drop]
   have h6:=qX (sz:=1) (l:=(l.drop off).map (tb.el E)) len (by rw [<- g1];exact Yo cx.ok)
   rw [Nat.mul_one] at h6
   rw [h6,<- List.map_take,g2,zc]
 | _=>exact jcX ho h2
end
end
section
open Go.RowKit
variable [GlC]
def FzL (id:Nat) (l:List AV) (ys xs:List AV):Prop:=∀ m bl m' bl',Frz id l m bl m' bl'->∀ vs,Jq m bl ys vs->Jq m' bl' xs vs
theorem ZZ.undef {id l y}:ZZ id l y .undef:=fun _ _ _ _ _ _ _=>.undef
theorem FzL.nil {id l}:FzL id l [] []:=fun _ _ _ _ _ vs r=>by cases r;exact .nil
theorem FzL.cons {id l y x ys xs} (h:ZZ id l y x) (k:FzL id l ys xs):FzL id l (y::ys) (x::xs):=fun m bl m' bl' f vs r=>by
 cases r with | cons a b=>exact .cons (h _ _ _ _ f _ a) (k _ _ _ _ f _ b)
theorem ZZ.agg {id l ys xs} (h:FzL id l ys xs):ZZ id l (.agg ys) (.agg xs):=fun m bl m' bl' f v r=>by cases r with | agg a b=>exact .agg (h _ _ _ _ f _ a) b
theorem ZZ.tup {id l ys xs} (h:FzL id l ys xs):ZZ id l (.tup ys) (.tup xs):=fun m bl m' bl' f v r=>by cases r with | tup a=>exact .tup (h _ _ _ _ f _ a)
theorem ZZ.clo {id l g ys xs} (h:FzL id l ys xs):ZZ id l (.clo g ys) (.clo g xs):=fun m bl m' bl' f v r=>by cases r with | clo a=>exact .clo (h _ _ _ _ f _ a)
theorem ZZ.opt {id l c y x} (h:ZZ id l y x):ZZ id l (.opt c y) (.opt c x):=fun m bl m' bl' f v r=>by cases r with | opt a b=>exact .opt (fun e=>h _ _ _ _ f _ (a e)) b
theorem ZZ.ifc {id l t y x} (h:ZZ id l y x):ZZ id l (.ifc t y) (.ifc t x):=fun m bl m' bl' f v r=>by cases r with | ifc a=>exact .ifc (h _ _ _ _ f _ a)
theorem ZZ.bare {id l y} (h:y.qH=true):ZZ id l y y:=by
 have:=ZZ.jaS (id:=id) (l:=l) y
 rwa [kJ h] at this
theorem Zw {x:AV} {l:List AV} (h:x.qH=true) (k:Jx l=true):Jx (x::l)=true:=by
 show (AV.clean _ x&&yM _ l)=true
 rw [show AV.clean (fun _=>false) x=true from h,show yM (fun _=>false) l=true from k];rfl
theorem Jq.split {m:Mem} {bl:Names}:∀ {a c:List AV} {vs},Jq m bl (a++c) vs->∃ v1 v2,vs=v1++v2/\Jq m bl a v1/\Jq m bl c v2
 | [],c,vs,r=>⟨[],vs,rfl,.nil,r⟩
 | x :: a,c,vs,r=>by
   cases r with
   | cons h t=>
     obtain ⟨v1,v2,rfl,h1,h2⟩:=Jq.split t
     exact ⟨_::v1,v2,rfl,.cons h h1,h2⟩
section
variable {P:Program} {tb:Tb} {ρ:Type} {cx:Ctx P tb}
mutual
theorem Wh {q:Nat->Bool} (hq:∀ i,q i=true):∀ x:SV tb,x.has q=true
 | .undef=>rfl
 | .i _ _=>rfl
 | .b8 _=>rfl
 | .bo _=>rfl
 | .st _=>rfl
 | .con _=>rfl
 | .agg l=>kX hq l
 | .tup l=>kX hq l
 | .sl _ _ _=>rfl
 | .em _=>rfl
 | .cp _=>rfl
 | .fn _ l=>kX hq l
 | .ptr id _=>hq id
 | .epr id _ _ _=>hq id
 | .row id _ _ _ _=>hq id
 | .rw id _=>hq id
 | .opt _ x=>Wh hq x
 | .cl _ _ _ _ _ _=>rfl
 | .ifc _ x=>Wh hq x
theorem kX {q:Nat->Bool} (hq:∀ i,q i=true):∀ l:List (SV tb),UG q l=true
 | []=>rfl
 | x::l=>by rw [vC,Wh hq x,kX hq l];rfl
end
mutual
theorem vB:∀ {x:SV tb},x.has (fun _=>false)=true->x.av.qH=true
 | .undef,_=>rfl
 | .i _ _,_=>rfl
 | .b8 _,_=>rfl
 | .bo _,_=>rfl
 | .st _,_=>rfl
 | .con _,_=>rfl
 | .agg l,h=>zo (l:=l) h
 | .tup l,h=>zo (l:=l) h
 | .sl _ _ _,_=>rfl
 | .em _,_=>rfl
 | .cp _,_=>rfl
 | .fn _ l,h=>zo (l:=l) h
 | .ptr id off,h=>by cases h
 | .epr id E i fo,h=>by cases h
 | .row id E off len mc,h=>by cases h
 | .rw id E,h=>by cases h
 | .opt _ x,h=>vB (x:=x) h
 | .cl _ _ _ _ yQ hc,_=>hc.2.1
 | .ifc _ x,h=>vB (x:=x) h
theorem zo:∀ {l:List (SV tb)},UG (fun _=>false) l=true->Jx (avL l)=true
 | [],_=>rfl
 | x::l,h=>by
   rw [vC,Bool.and_eq_true] at h
   exact Zw (vB h.1) (zo h.2)
end
theorem qD (cx:Ctx P tb) {E:tb.Ix} (l:List (tb.T E)):Jx ((l.map (tb.el E)).flatMap AV.cells)=true:=by
 induction l with
 | nil=>rfl
 | cons x l ih=>
   rw [List.map_cons,List.flatMap_cons]
   show yM _ _=true
   rw [Qb,show yM _ (tb.el E x).cells=true from ((cx.ok E).bare x).2,show yM _ _=true from ih];rfl
def SC.ce:SC tb->Option (List AV)
 | .cells l=>some (avL l)
 | .arr E l=>some (elC tb E l)
 | .iter _ _=>none
mutual
theorem pQ (cx:Ctx P tb) {g:Gn tb} {id:Nat} {c:SC tb} {l:List AV} (hc:c.ce=some l) (hg:find id g=none):∀ x:SV tb,ZZ id l (x.res g).av (x.res ((id,vP.fz c)::g)).av
 | .undef=>.undef
 | .i _ _=>.bare rfl
 | .b8 _=>.bare rfl
 | .bo _=>.bare rfl
 | .st _=>.bare rfl
 | .con _=>.bare rfl
 | .agg xs=>.agg (Ks cx hc hg xs)
 | .tup xs=>.tup (Ks cx hc hg xs)
 | .sl _ _ _=>.bare rfl
 | .em _=>.bare rfl
 | .cp _=>.bare rfl
 | .fn f xs=>.clo (Ks cx hc hg xs)
 | .ptr i off=>by
   simp only [SV.res]
   rw [jj]
   by_cases hi:id=i
   ·subst hi
    rw [hg,if_pos rfl]
    cases c with
    | cells cl=>
      cases hc
      show ZZ id (avL cl) (.ptr id off) (.Qf (avL (cl.drop off)))
      rw [QZ];exact .ptr
    | arr E' l'=>exact .undef
    | iter _ _=>exact .undef
   ·rw [if_neg hi]
    cases hf:find i g with
    | none=>
      have:=ZZ.jaS (id:=id) (l:=l) (.ptr i off)
      simp only [AV.re,if_neg (Ne.symm hi)] at this
      exact this
    | some c'=>
      cases c' with
      | drop=>exact .undef
      | fz c'=>cases c' with
        | cells _=>exact .bare rfl
        | arr _ _=>exact .undef
        | iter _ _=>exact .undef
 | .epr i E k fo=>by
   simp only [SV.res]
   rw [jj]
   by_cases hi:id=i
   ·rw [if_pos hi];exact .undef
   ·rw [if_neg hi]
    cases hf:find i g with
    | none=>
      have:=ZZ.jaS (id:=id) (l:=l) (.ptr i (k.toNat*tb.sz E+fo))
      simp only [AV.re,if_neg (Ne.symm hi)] at this
      exact this
    | some c'=>exact .undef
 | .row i E off len mc=>by
   simp only [SV.res]
   rw [jj]
   by_cases hi:id=i
   ·rw [if_pos hi];exact .undef
   ·rw [if_neg hi]
    cases hf:find i g with
    | none=>
      have:=ZZ.jaS (id:=id) (l:=l) (.row i (off*tb.sz E) len mc (tb.sz E))
      simp only [AV.re,if_neg (Ne.symm hi)] at this
      exact this
    | some c'=>exact .undef
 | .rw i E => by
   simp only [SV.res]
   rw [jj]
   by_cases hi:id=i
   ·subst hi
    rw [hg,if_pos rfl]
    cases c with
    | cells cl=>exact .undef
    | iter _ _=>exact .undef
    | arr E' l'=>
      cases hc
      show ZZ id (elC tb E' l') (.rw id (tb.sz E)) (SV.av (match tb.dec E' E with | isTrue h=>.sl false E (h ▸ l') | isFalse _=>.undef))
      split
      ·rename_i h _
       subst h
       exact .rw (els:=l'.map (tb.el E')) (by
        intro x hx
        obtain ⟨y,-,rfl⟩:=List.mem_map.1 hx
        exact (cx.ok E').len y) (cx.ok E').pos rfl
      ·exact .undef
   ·rw [if_neg hi]
    cases hf:find i g with
    | none=>
      have:=ZZ.jaS (id:=id) (l:=l) (.rw i (tb.sz E))
      simp only [AV.re,if_neg (Ne.symm hi)] at this
      exact this
    | some c'=>
      cases c' with
      | drop=>exact .undef
      | fz c'=>cases c' with
        | cells _=>exact .undef
        | iter _ _=>exact .undef
        | arr E' l'=>
          show ZZ id l (SV.av (match tb.dec E' E with | isTrue h=>.sl false E (h ▸ l') | isFalse _=>.undef)) (SV.av (match tb.dec E' E with | isTrue h=>.sl false E (h ▸ l') | isFalse _=>.undef))
          split
          ·exact .bare rfl
          ·exact .undef
 | .opt _ x=>.opt (pQ cx hc hg x)
 | .cl _ _ _ _ _ h=>.bare h.2.1
 | .ifc _ x=>.ifc (pQ cx hc hg x)
theorem Ks (cx:Ctx P tb) {g:Gn tb} {id:Nat} {c:SC tb} {l:List AV} (hc:c.ce=some l) (hg:find id g=none):∀ xs:List (SV tb),FzL id l (avL (KP g xs)) (avL (KP ((id,vP.fz c)::g) xs))
 | []=>.nil
 | x::xs=>.cons (pQ cx hc hg x) (Ks cx hc hg xs)
end
/- names that occur -/
mutual
def SV.nms:SV tb->List Nat->List Nat
 | .agg l,a=>jcz l a
 | .tup l,a=>jcz l a
 | .fn _ l,a=>jcz l a
 | .ptr id _,a=>id::a
 | .epr id _ _ _,a=>id::a
 | .row id _ _ _ _,a=>id::a
 | .rw id _,a=>id::a
 | .opt _ x,a=>x.nms a
 | .ifc _ x,a=>x.nms a
 | .undef,a=>a
 | .i _ _,a=>a
 | .b8 _,a=>a
 | .bo _,a=>a
 | .st _,a=>a
 | .con _,a=>a
 | .sl _ _ _,a=>a
 | .em _,a=>a
 | .cp _,a=>a
 | .cl _ _ _ _ _ _,a=>a
def jcz:List (SV tb)->List Nat->List Nat
 | [],a=>a
 | x::l,a=>x.nms (jcz l a)
end
def XW (L:SLS tb) (id:Nat):Option (SC tb):=match Yh L.gn id with
 | false=>none
 | true=>match find id L.h with
   | some (.arr E l)=>some (.arr E l)
   | some (.cells l)=>tst (UG (fun _=>false) (KP L.gn l)) (some (.cells (KP L.gn l)))
   | _=>none
theorem jcc (cx:Ctx P tb) {L:SLS tb} {id c} (h:XW L id=some c):∃ l,c.ce=some l/\find id (avH L.gn L.h)=some (.cells l)/\Jx l=true/\find id L.gn=none:=by
 unfold XW at h
 split at h
 ·cases h
 ·rename_i hk
  have hk':=qW hk
  split at h
  ·rename_i E l hf
   cases h
   exact ⟨_,rfl,by rw [YT,if_pos hk,hf];rfl,qD cx l,hk'⟩
  ·rename_i l hf
   obtain ⟨h1,h⟩:=jK h
   cases h
   exact ⟨_,rfl,by rw [YT,if_pos hk,hf];rfl,zo h1,hk'⟩
  ·cases h
/-! lending -/
theorem jdb {B:Nat} {m0:Mem} {h:Hp} {m:Mem} {bl:Names} {w:World} (s:Zk B m0 h m bl w) {id:Nat} {l:List AV} {r:List (Nat × List Value)} (hf:find id h=some (.cells l)) (hb:Jx l=true)
 (hnd:id∉r.map (·.1)) (bl1:Names) (h1:bl1 id=bl id):∃ pre,mi m bl w [(id,pre)]/\∀ bl2:Names,(∀ i x,i≠id->bl1 i=some x->bl2 i=some x)->Frz id l (Uh m bl r) bl1 (Uh m bl ((id,pre)::r)) bl2:=by
 rcases s.blk id l hf with ⟨g1,g2⟩ | ⟨b,n,arr,T,pre,rest,g1,g2,g3,g4,g5,g6⟩
 ·refine ⟨[],?_,fun bl2 h2=>⟨?_,h2,.inl ⟨by rw [h1];exact g1,g2⟩⟩⟩
  ·intro p hp b n hbn
   rw [List.mem_singleton] at hp;subst hp
   rw [g1] at hbn;cases hbn
  ·have:Uh m bl ((id,[])::r)=Uh m bl r:=by
    funext b o
    simp only [Uh];rw [g1]
   rw [this];exact Mem.le.refl _
 ·obtain ⟨o1,o2,o3⟩:=s.own id b n g1
  refine ⟨pre,?_,fun bl2 h2=>⟨?_,h2,.inr ⟨b,n,pre,by rw [h1];exact g1,by rw [<- g3],?_,g6,?_⟩⟩⟩
  ·intro p hp b' n' hbn o v hv
   rw [List.mem_singleton] at hp;subst hp
   simp only at hbn hv
   rw [g1] at hbn;cases hbn
   rw [Ji g2];exact Za g4 hv
  ·intro b' o v e
   simp only [Uh]
   rw [g1]
   simp only
   rw [if_neg]
   ·exact e
   ·rintro rfl
    rcases Ug e with h | ⟨id',pre',n',q1,q2,-⟩
    ·rw [o3 o] at h;cases h
    ·have:=s.inj id id' b' n n' g1 q2
     subst this
     exact hnd (List.mem_map.2 ⟨_,q1,rfl⟩)
  ·have:=g5.bare (bl':=je)
   rw [ZP,JF hb] at this
   exact this.mono (Vc s _)
  ·intro o v hv
   simp only [Uh]
   rw [g1]
   simp [hv]
def Xz (L:SLS tb):List Nat->Gn tb->Option (Gn tb × List Nat)
 | [],g=>some (g,[])
 | id::r,g=>match find id g with
   | some _=>Xz L r g
   | none=>got (XW L id) fun c=>got (Xz L r ((id,.fz c)::g)) fun p=>some (p.1,id::p.2)
theorem wt (cx:Ctx P tb) {L:SLS tb} {B:Nat} {m0:Mem} {h:Hp} {m:Mem} {bl:Names} {w:World} (s:Zk B m0 h m bl w):∀ {ids:List Nat} {g:Gn tb} {p} {r:List (Nat × List Value)} {bl1:Names},Xz L ids g=some p->
 (∀ q∈yJ L p.2,find q.1 h=some (.cells q.2))->(∀ i∈r.map (·.1),find i g≠none)->(∀ i,find i g=none->bl1 i=bl i)->(r.map (·.1)).Nodup->mi m bl w r->
 ∃ r' bl2,(r'.map (·.1)).Nodup/\mi m bl w r'/\∀ xs vs,Jq (Uh m bl r) bl1 (avL (KP g xs)) vs->Jq (Uh m bl r') bl2 (avL (KP p.1 xs)) vs
 | [],g,p,r,bl1,hp,_,_,_,hnd,hlo=>by
   cases hp
   exact ⟨r,bl1,hnd,hlo,fun xs vs h=>h⟩
 | id :: ids,g,p,r,bl1,hp,hn,hr,hb1,hnd,hlo=>by
   unfold Xz at hp
   split at hp
   ·exact wt cx s hp hn hr hb1 hnd hlo
   ·rename_i hid
    obtain ⟨c,hc,hp⟩:=jg hp
    obtain ⟨p',hp',hp⟩:=jg hp
    cases hp
    obtain ⟨l,c1,c2,c3,c4⟩:=jcc cx hc
    have hn0:find id h=some (.cells l):=by
     have:yJ L (id::p'.2)=(id,l)::yJ L p'.2:=by simp [yJ,c2]
     rw [this] at hn
     exact hn (id,l) (by simp)
    have hn1:∀ q∈yJ L p'.2,find q.1 h=some (.cells q.2):=by
     intro q hq
     have:yJ L (id::p'.2)=(id,l)::yJ L p'.2:=by simp [yJ,c2]
     rw [this] at hn
     exact hn q (List.mem_cons_of_mem _ hq)
    have hidr:id∉r.map (·.1):=fun hm=>hr id hm hid
    obtain ⟨pre,f1,f2⟩:=jdb s hn0 c3 hidr bl1 (hb1 id hid)
    have f2:=f2 (fun i=>if i=id then none else bl1 i) (fun i x hi hx=>by show (if _ then _ else _)=_;rw [if_neg hi];exact hx)
    obtain ⟨r',bl2,e1,e2,e3⟩:=wt cx s (g:=(id,.fz c)::g) (r:=(id,pre)::r) (bl1:=fun i=>if i=id then none else bl1 i) hp' hn1
     (by
       intro i hi
       rw [jj]
       simp only [List.map_cons,List.mem_cons] at hi
       rcases hi with rfl | hi
       ·simp
       ·split
        ·simp
        ·exact hr i hi)
     (by
       intro i hi
       rw [jj] at hi
       split at hi
       ·cases hi
       ·rename_i hne
        show (if _ then _ else _)=_
        rw [if_neg (Ne.symm hne)];exact hb1 i hi)
     (by rw [List.map_cons,List.nodup_cons];exact ⟨hidr,hnd⟩)
     (by
       intro q hq
       rcases List.mem_cons.1 hq with rfl | hq
       ·exact f1 _ (by simp)
       ·exact hlo q hq)
    refine ⟨r',bl2,e1,e2,fun xs vs h=>e3 xs vs ?_⟩
    exact Ks cx c1 hid xs _ _ _ _ f2 _ h
def elemOf (P:Program) (tb:Tb) (t:Nat):Option (tb.Ix × Nat × Nat):=got (P.underlying t) fun D=>got (Kf D) fun E'=>got (tb.look E') fun E=>got (VX P t (tb.sz E)) fun p=>some (E,p.1,p.2)
theorem zR {t p} (h:elemOf P tb t=some p):Zm P t p.2.1 (tb.sz p.1) p.2.2:=by
 unfold elemOf at h
 obtain ⟨D,hD,h⟩:=jg h
 obtain ⟨E',hE',h⟩:=jg h
 obtain ⟨E,hE,h⟩:=jg h
 obtain ⟨q,hq,h⟩:=jg h
 cases h
 exact Ze hq
theorem QEx.jcM {o:Oper} {e:Env} {t y hi E sz by_ k i} (ho:o.op=.slice t y none (some hi) none) (ht:Zm P t E sz by_) (hy:jF e y (.v (.slice none 0 0))) (hh:jF e hi (.v (.int k i))) (h0:i=0):QEx P o e [] (.v (.slice none 0 0)):=
 .pure fun _ _ _ m bl ac w hws _ hr=>by
  have q1:=(hy.rep hr (by simp [ho,Op.operands])).YG
  have q2:=(hh.rep hr (by simp [ho,Op.operands])).YG
  subst h0
  refine ⟨.slice none 0 0,?_,.v⟩
  simp [execOp,ho,q1,Instr.sliceAt,ji ht.under,Instr.slice,Instr.sliceBounds,q2,Instr.sliceBound,asIntOf,jr ht.sz]
def qSlN (P:Program) (tb:Tb) (L:SLS tb) (G:Gd) (t:Nat) (hi:Operand) (k:SV tb->List Nat->Option ρ):Option ρ:=
 got (elemOf P tb t) fun p=>got (opd L G hi) fun b=>got (asI b) fun q=>chk G (q.2=0) (k (.con (.slice none 0 0)) [])
theorem jfg {L:SLS tb} {G o t y hi a} {k:SV tb->List Nat->Option ρ} {r} (ho:o.op=.slice t y none (some hi) none) (ha:opd L G y=some a) (hn:isNil a=true) (h:qSlN P tb L G t hi k=some r):QOk P L G o k r:=by
 unfold qSlN at h
 obtain ⟨p,hp,h⟩:=jg h
 obtain ⟨b,hb,h⟩:=jg h
 obtain ⟨q,hq,h⟩:=jg h
 obtain ⟨hc,h⟩:=Qg h
 refine ⟨_,[],h,fun u=>?_⟩
 have h1:=jY u ha
 rw [Wd hn] at h1
 have h2:=jY u hb
 rw [zI hq] at h2
 exact QEx.jcM ho (zR hp) h1 h2 (hc u.on)
def uV (cx:Ctx P tb) (L:SLS tb) (G:Gd) (t:Nat) (y lo hi mx:Operand) (k:SV tb->List Nat->Option ρ):Option ρ:=
 got (opd L G y) fun a=>got (opd L G lo) fun b1=>got (asI b1) fun p1=>got (opd L G hi) fun b2=>got (asI b2) fun p2=>got (opd L G mx) fun b3=>got (asI b3) fun p3=>match a with
 | .row id E off len mc=>got (VX P t (tb.sz E)) fun _=>chk G (0<=p1.2/\p1.2<=p2.2/\p2.2<=p3.2/\p3.2<=mc) (k .undef [])
 | .rw id E=>got (VX P t (tb.sz E)) fun _=>got (QL L id E) fun l=>chk G (0<=p1.2/\p1.2<=p2.2/\p2.2<=p3.2/\p3.2<=l.length) (k .undef [id])
 | _=>none
theorem Xm {L:SLS tb} {G o t y lo hi mx} {k:SV tb->List Nat->Option ρ} {r} (ho:o.op=.slice t y (some lo) (some hi) (some mx)) (h:uV cx L G t y lo hi mx k=some r):QOk P L G o k r:=by
 unfold uV at h
 obtain ⟨a,ha,h⟩:=jg h
 obtain ⟨b1,hb1,h⟩:=jg h
 obtain ⟨p1,hp1,h⟩:=jg h
 obtain ⟨b2,hb2,h⟩:=jg h
 obtain ⟨p2,hp2,h⟩:=jg h
 obtain ⟨b3,hb3,h⟩:=jg h
 obtain ⟨p3,hp3,h⟩:=jg h
 have hy:=fun u=>jY (L:=L) (G:=G) u ha
 have h1:=fun u=>jY (L:=L) (G:=G) u hb1
 have h2:=fun u=>jY (L:=L) (G:=G) u hb2
 have h3:=fun u=>jY (L:=L) (G:=G) u hb3
 rw [zI hp1] at h1
 rw [zI hp2] at h2
 rw [zI hp3] at h3
 split at h
 ·obtain ⟨ET,hE,h⟩:=jg h
  obtain ⟨hc,h⟩:=Qg h
  exact ⟨_,[],h,fun u=>QEx.jab (need:=[]) ho (Ze hE) ((hy u).r (by simp [ho,Op.operands])) (h1 u) (h2 u) (h3 u) (hc u.on)⟩
 ·obtain ⟨ET,hE,h⟩:=jg h
  obtain ⟨l,hl,h⟩:=jg h
  have hl:=YF hl
  obtain ⟨hc,h⟩:=Qg h
  refine ⟨_,_,h,fun u=>?_⟩
  rw [JT hl]
  exact QEx.jab ho (Ze hE) (ROk.rw (xs:=l.map (tb.el _)) (hy u) (by simp [ho,Op.operands]) (show _∈[(_,elC tb _ l)] from jcA) (Yo cx.ok) (cx.ok _).pos) (h1 u) (h2 u) (h3 u) (by rw [List.length_map];exact hc u.on)
 ·cases h
def Xk (cx:Ctx P tb) (L:SLS tb) (G:Gd) (t:Nat) (y:Operand) (lo hi:Option Operand) (k:SV tb->List Nat->Option ρ):Option ρ:=match opd L G y with
 | some a=>(match isNil a with
   | true=>(match lo,hi with
     | none,some h=>qSlN P tb L G t h k
     | _,_=>none)
   | false=>jar cx L G t y lo hi k)
 | none=>none
theorem mG {L:SLS tb} {G o t y lo hi} {k:SV tb->List Nat->Option ρ} {r} (ho:o.op=.slice t y lo hi none) (h:Xk cx L G t y lo hi k=some r):QOk P L G o k r:=by
 unfold Xk at h
 split at h
 ·rename_i a ha
  split at h
  ·rename_i hn
   split at h
   ·exact jfg ho ha hn h
   ·cases h
  ·exact jaq ho h
 ·cases h
end
end
section
open Go.RowKit
variable [GlC]
theorem Sub.Qf {l l':List AV} (h:QG l l'):Sub (.Qf l) (.Qf l'):=by
 intro m bl v r
 cases r with | Qf h1 h2 h3=>exact .Qf (h _ _ _ h1) h2 h3
section
variable {P:Program} {tb:Tb} {ρ:Type} {cx:Ctx P tb}
def XS (cx:Ctx P tb):(l:List (PTy tb))->List (SV tb)->Option (WY tb l)
 | [],[]=>some ()
 | .d i::l,x::xs=>got ((cx.cd i).of x) fun a=>got (XS cx l xs) fun b=>some (a,b)
 | .cap i::l,.cp c::xs=>got ((cx.cd i).ofC c) fun a=>got (XS cx l xs) fun b=>some (a,b)
 | _,_=>none
theorem wB:∀ {l:List (PTy tb)} {xs a},XS cx l xs=some a->∃ vs,UF P l a vs/\QG (avL xs) vs/\Jx vs=true
 | [],[],_,h=>⟨[],trivial,.refl _,rfl⟩
 | [],_::_,_,h=>by cases h
 | .d i::l,[],_,h=>by cases h
 | .cap i::l,[],_,h=>by cases h
 | .fn _ _::l,xs,_,h=>by cases xs <;> cases h
 | .d i::l,x::xs,ab,h=>by
   unfold XS at h
   obtain ⟨a,ha,h⟩:=jg h
   obtain ⟨b,hb,h⟩:=jg h
   cases h
   obtain ⟨vs,h1,h2,h3⟩:=wB hb
   exact ⟨_::vs,⟨rfl,h1⟩,.cons ((cx.ok i).of _ _ ha) h2,Zw ((cx.ok i).bare a).1 h3⟩
 | .cap i::l,x::xs,ab,h=>by
   cases x with
   | cp c=>
     unfold XS at h
     obtain ⟨a,ha,h⟩:=jg h
     obtain ⟨b,hb,h⟩:=jg h
     cases h
     obtain ⟨vs,h1,h2,h3⟩:=wB hb
     exact ⟨_::vs,⟨rfl,h1⟩,.cons (.Qf ((cx.ok i).ofC _ _ ha).1) h2,h3⟩
   | _=>cases h
def mkPA (cx:Ctx P tb):(l:List (PTy tb))->(ps:List tb.Ix)->List (SV tb)->Option (Tup tb ps->WY tb l)
 | l,[],yQ=>got (XS cx l yQ) fun a=>some fun _=>a
 | .d i::l,[j],yQ=>(match tb.dec j i with
   | isTrue h=>got (XS cx l yQ) fun a=>some fun x=>(h ▸ x,a)
   | isFalse _=>none)
 | .d i::l,j::j'::r,yQ=>(match tb.dec j i with
   | isTrue h=>got (mkPA cx l (j'::r) yQ) fun f=>some fun x=>(h ▸ x.1,f x.2)
   | isFalse _=>none)
 | _,_,_=>none
theorem jaX:∀ {l:List (PTy tb)} {ps yQ f},mkPA cx l ps yQ=some f->∃ vs,QG (avL yQ) vs/\Jx vs=true/\∀ a,UF P l (f a) (Zn ps a++vs)
 | l,[],yQ,f,h=>by
   unfold mkPA at h
   obtain ⟨a,ha,h⟩:=jg h
   cases h
   obtain ⟨vs,h1,h2,h3⟩:=wB ha
   exact ⟨vs,h2,h3,fun _=>h1⟩
 | .d i::l,[j],yQ,f,h=>by
   unfold mkPA at h
   split at h
   ·rename_i hj _
    subst hj
    obtain ⟨a,ha,h⟩:=jg h
    cases h
    obtain ⟨vs,h1,h2,h3⟩:=wB ha
    exact ⟨vs,h2,h3,fun x=>⟨rfl,h1⟩⟩
   ·cases h
 | .d i::l,j::j'::r,yQ,f,h=>by
   unfold mkPA at h
   split at h
   ·rename_i hj _
    subst hj
    obtain ⟨a,ha,h⟩:=jg h
    cases h
    obtain ⟨vs,h1,h2,h3⟩:=jaX ha
    exact ⟨vs,h1,h2,fun x=>⟨rfl,h3 x.2⟩⟩
   ·cases h
 | [],[j],_,_,h=>by cases h
 | [],j::j'::r,_,_,h=>by cases h
 | .cap _::_,[j],_,_,h=>by cases h
 | .cap _::_,j::j'::r,_,_,h=>by cases h
 | .fn _ _::_,[j],_,_,h=>by cases h
 | .fn _ _::_,j::j'::r,_,_,h=>by cases h
def ZL (f:Nat):List (Con P tb cx.cd)->Option (Con P tb cx.cd)
 | []=>none
 | c::r=>match Nat.beq c.fid f with | true=>some c | false=>ZL f r
theorem zr {f:Nat}:∀ {l:List (Con P tb cx.cd)} {c},ZL f l=some c->c.fid=f
 | [],_,h=>by simp [ZL] at h
 | c::r,c',h=>by
   simp only [ZL] at h
   split at h
   ·rename_i hb;cases h;exact Nat.eq_of_beq_eq_true hb
   ·exact zr h
def isE {α:Type}:List α->Bool
 | []=>true
 | _=>false
theorem jbh {α:Type} {l:List α} (h:isE l=true):l=[]:=by cases l;rfl;cases h
theorem Con.ok0 (c:Con P tb cx.cd) (h:c.own=[]) {a avs r} (hr:UF P c.ps a avs) (hf:c.f a=some r):FnR P c.fid avs (wK c.rs r) []:=by
 have:=c.ok a avs r hr hf
 rw [h] at this
 obtain ⟨h1,h2⟩:=Wz cx.cd cx.ok c.rs r 0
 rw [h1,h2] at this;exact this
def decL (tb:Tb):DecidableEq (List tb.Ix):=@instDecidableEqList _ tb.dec
def cloG (cx:Ctx P tb) (f:Nat) (yQ:List (SV tb)) (ps rs:List tb.Ix):Option (Tup tb ps->Option (Tup tb rs)):=
 got (ZL f cx.Γ) fun c=>tst (isE c.own) <| got (mkPA cx c.ps ps yQ) fun m=>match decL tb c.rs rs with
 | isTrue h=>some fun a=>h ▸ c.cf (m a)
 | isFalse _=>none
theorem jgt {f yQ ps rs g} (h:cloG cx f yQ ps rs=some g):∃ vs,QG (avL yQ) vs/\CloR tb f vs ps rs g:=by
 unfold cloG at h
 obtain ⟨c,hc,h⟩:=jg h
 obtain ⟨h1,h⟩:=jK h
 obtain ⟨m,hm,h⟩:=jg h
 obtain ⟨vs,g1,g2,g3⟩:=jaX hm
 split at h
 ·rename_i hrs _
  cases h
  refine ⟨vs,g1,?_⟩
  have hP:=cx.hP
  refine ⟨?_,g2,?_⟩
  ·rw [hP];rw [<- zr hc];exact c.call
  ·intro a r hr
   rw [hP,<- zr hc]
   subst hrs
   exact c.ok0 (jbh h1) (g3 a) ((c.jgv _).symm.trans hr)
 ·cases h
def argD (cx:Ctx P tb) (x:SV tb):(p:PTy tb)->Option p.den
 | .d i=>(cx.cd i).of x
 | .cap i=>match x with | .cp l=>(cx.cd i).ofC l | _=>none
 | .fn ps rs=>match x with
   | .cl ps' rs' g _ _ _=>(match decL tb ps' ps,decL tb rs' rs with
     | isTrue h,isTrue h'=>some (h ▸ h' ▸ g)
     | _,_=>none)
   | .fn f yQ=>cloG cx f yQ ps rs
   | _=>none
theorem jgE {x:SV tb} {p a} (h:argD cx x p=some a):∃ v,ArgR P p a v/\Sub x.av v/\v.qH=true:=by
 cases p with
 | d i=>exact ⟨_,rfl,(cx.ok i).of _ _ h,((cx.ok i).bare a).1⟩
 | cap i=>
   cases x with
   | cp l=>exact ⟨_,rfl,.Qf ((cx.ok i).ofC _ _ h).1,rfl⟩
   | _=>cases h
 | fn ps rs=>
   cases x with
   | cl ps' rs' g f yQ hc=>
     unfold argD at h
     simp only at h
     split at h
     ·rename_i h1 h2 _ _
      subst h1 h2
      cases h
      exact ⟨_,⟨f,yQ,rfl,hc⟩,.refl _,hc.2.1⟩
     ·cases h
   | fn f yQ=>
     obtain ⟨vs,h1,h2⟩:=jgt (h:cloG cx f yQ ps rs=some a)
     exact ⟨_,⟨f,vs,rfl,h2⟩,.clo h1,h2.2.1⟩
   | _=>cases h
def jcf (cx:Ctx P tb):(l:List (PTy tb))->List (SV tb)->Option (WY tb l)
 | [],[]=>some ()
 | p::l,x::xs=>got (argD cx x p) fun a=>got (jcf cx l xs) fun b=>some (a,b)
 | _,_=>none
theorem Uv:∀ {l:List (PTy tb)} {xs a},jcf cx l xs=some a->∃ vs,UF P l a vs/\QG (avL xs) vs/\Jx vs=true
 | [],[],_,h=>⟨[],trivial,.refl _,rfl⟩
 | [],_::_,_,h=>by cases h
 | p::l,[],_,h=>by cases h
 | p::l,x::xs,ab,h=>by
   unfold jcf at h
   obtain ⟨a,ha,h⟩:=jg h
   obtain ⟨b,hb,h⟩:=jg h
   cases h
   obtain ⟨v,h0,h4,h5⟩:=jgE ha
   obtain ⟨vs,h1,h2,h3⟩:=Uv hb
   exact ⟨v::vs,⟨h0,h1⟩,.cons h4 h2,Zw h5 h3⟩
def tupC:(i:tb.Ix)->(l:List tb.Ix)->tb.T i->Tup tb l->Tup tb (i::l)
 | _,[],a,_=>a
 | _,_::_,a,b=>(a,b)
theorem MR {i:tb.Ix} {l:List tb.Ix} {a:tb.T i} {b:Tup tb l}:Zn (i::l) (tupC i l a b)=tb.el i a::Zn l b:=by
 cases l <;> rfl
def tupD (cx:Ctx P tb):(l:List tb.Ix)->List (SV tb)->Option (Tup tb l)
 | [],xs=>tst (isE xs) (some ())
 | i::l,xs=>match xs with
   | []=>none
   | x::xs=>got ((cx.cd i).of x) fun a=>got (tupD cx l xs) fun b=>some (tupC i l a b)
theorem Xc:∀ {l:List tb.Ix} {xs a},tupD cx l xs=some a->QG (avL xs) (Zn l a)/\Jx (Zn l a)=true
 | [],xs,_,h=>by
   obtain ⟨h1,h⟩:=jK h
   rw [jbh h1]
   exact ⟨.refl _,rfl⟩
 | i::l,[],_,h=>by cases h
 | i::l,x::xs,ab,h=>by
   obtain ⟨a,ha,h⟩:=jg (show got ((cx.cd i).of x) _=some ab from h)
   obtain ⟨b,hb,h⟩:=jg h
   cases h
   obtain ⟨h1,h2⟩:=Xc hb
   rw [MR]
   exact ⟨.cons ((cx.ok i).of _ _ ha) h1,Zw ((cx.ok i).bare a).1 h2⟩
def MQ (cx:Ctx P tb):(l:List tb.Ix)->Tup tb l
 | []=>()
 | [i]=>(cx.cd i).inh
 | i::j::r=>((cx.cd i).inh,MQ cx (j::r))
theorem uc (cx:Ctx P tb):∀ (l:List tb.Ix) (r:Tup tb l),Jx (Zn l r)=true
 | [],_=>rfl
 | [i],x=>Zw ((cx.ok i).bare x).1 rfl
 | i::j::l,x=>Zw ((cx.ok i).bare x.1).1 (uc cx (j::l) x.2)
theorem vV (cx:Ctx P tb) (l:List tb.Ix) (r:Tup tb l):(wK l r).qH=true:=by
 have:=uc cx l r
 unfold wK
 cases l with
 | nil=>rfl
 | cons i l=>
   cases l with
   | nil=>exact ((cx.ok i).bare r).1
   | cons j l=>cases l <;> exact this
def ansV (cx:Ctx P tb) (rs:List tb.Ix) (r:Tup tb rs):SV tb:=(vI tb cx.cd [] rs r 0).1
def Zj (cx:Ctx P tb):List tb.Ix->Bool
 | []=>true
 | i::l=>match (cx.cd i).flat with | true=>Zj cx l | false=>false
theorem ub {cx:Ctx P tb}:∀ {l:List tb.Ix} (r:Tup tb l),Zj cx l=true->WU (Zn l r)=true
 | [],_,_=>rfl
 | [i],x,h=>by
   unfold Zj at h
   split at h
   ·simp [Zn,WU,(cx.ok i).flat ‹_› x]
   ·cases h
 | i :: j::l,x,h=>by
   unfold Zj at h
   split at h
   ·have:=ub (l:=j::l) x.2 h
    simp [Zn,WU,(cx.ok i).flat ‹_› x.1] at this ⊢
    exact this
   ·cases h
theorem uh {cx:Ctx P tb} {l:List tb.Ix} (r:Tup tb l) (h:Zj cx l=true):(wK l r).flat=true:=by
 have:=ub r h
 unfold wK
 cases l with
 | nil=>rfl
 | cons i l=>
   cases l with
   | nil=>simpa [Zn,WU,YS] using this
   | cons j l=>cases l <;> exact this
def jc9 (cx:Ctx P tb) (L:SLS tb) (rs:List tb.Ix) (xs:List (SV tb)) (k:List (SV tb)->List Nat->Option ρ):Option ρ:=match jcz xs [] with
 | []=>k xs []
 | id::r=>got (Xz L (id::r) []) fun p=>tst (Zj cx rs) <| k (KP p.1 xs) p.2
def Vl (f:Nat):List (Hnd P tb)->Option (Hnd P tb)
 | []=>none
 | c::r=>match Nat.beq c.fid f with | true=>some c | false=>Vl f r
theorem Wm {f:Nat}:∀ {l:List (Hnd P tb)} {c},Vl f l=some c->c.fid=f
 | [],_,h=>by simp [Vl] at h
 | c::r,c',h=>by
   simp only [Vl] at h
   split at h
   ·rename_i hb;cases h;exact Nat.eq_of_beq_eq_true hb
   ·exact Wm h
def qHand (L:SLS tb) (h:Hnd P tb) (xs:List (SV tb)) (k:SV tb->List Nat->Option ρ):Option ρ:=got (h.f xs) fun y=>k y []
def jft (cx:Ctx P tb) (L:SLS tb) (G:Gd) (y:Operand) (args:Array Operand) (k:SV tb->List Nat->Option ρ):Option ρ:=
 got (opd L G y) fun c=>got (WR L G args.toList) fun xs=>match c with
 | .fn f yQ=>(match Vl f cx.hnd with
 | some h=>qHand L h (xs++yQ) k
 | none=>got (ZL f cx.Γ) fun c=>tst (isE c.own) <| jc9 cx L c.rs (xs++yQ) fun ys need=>got (jcf cx c.ps ys) fun a=>bnd G (MQ cx c.rs) (c.cf a) fun r=>k (ansV cx c.rs r) need)
 | .cl ps rs g _ _ _=>jc9 cx L rs xs fun ys need=>got (tupD cx ps ys) fun a=>bnd G (MQ cx rs) (g a) fun r=>k (ansV cx rs r) need
 | _=>none
theorem jep {L:SLS tb} {rs xs} {k:List (SV tb)->List Nat->Option ρ} {r} (h:jc9 cx L rs xs k=some r):
 ∃ ys need,k ys need=some r/\((ys=xs/\need=[])\/(Zj cx rs=true/\∃ g,(∃ ids,Xz L ids []=some (g,need))/\ys=KP g xs)):=by
 unfold jc9 at h
 split at h
 ·exact ⟨_,_,h,.inl ⟨rfl,rfl⟩⟩
 ·obtain ⟨p,hp,h⟩:=jg h
  obtain ⟨hf,h⟩:=jK h
  exact ⟨_,_,h,.inr ⟨hf,p.1,⟨_,hp⟩,rfl⟩⟩
theorem jgw {L:SLS tb} {o:Oper} {fn:Nat} {rs:List tb.Ix} {x:Tup tb rs} {xs ys:List (SV tb)} {need vs} (cx:Ctx P tb)
 (hk:(ys=xs/\need=[])\/(Zj cx rs=true/\∃ g,(∃ ids,Xz L ids []=some (g,need))/\ys=KP g xs))
 (hg:QG (avL ys) vs) (hbare:Jx vs=true) (hf:FnR P fn vs (wK rs x) [])
 (hrun:∀ {m bl a} (w:World),Reads o L.E m bl a->∃ ws:List Value,(execOp a.eval o).run P w=.ok (.enter fn ws.toArray) w/\Jq m bl (avL xs) ws)
 (hres:KP ([]:Gn tb) xs=xs):QEx P o L.E (yJ L need) (wK rs x):=by
 rcases hk with ⟨rfl,rfl⟩ | ⟨hfl,g,⟨ids,hl⟩,rfl⟩
 ·refine QEx.enter (fn:=fn) (ys:=vs) (fun m bl ac w hrd=>?_) hf (vV cx _ _)
  obtain ⟨ws,h1,h2⟩:=hrun w hrd
  refine ⟨ws,h1,?_⟩
  have:=(hg _ _ _ h2).bare (bl':=je)
  rwa [ZP,JF hbare] at this
 ·refine QEx.jeE (fn:=fn) (ys:=vs) (fun B m0 h m bl ac w hws hn hrd=>?_) hf (uh x hfl)
  obtain ⟨ws,h1,h2⟩:=hrun w hrd
  obtain ⟨r',bl2,e1,e2,e3⟩:=wt cx hws (ids:=ids) (g:=[]) (r:=[]) (bl1:=bl) hl hn (by simp) (fun i _=>rfl) .nil (by intro p hp;cases hp)
  refine ⟨r',ws,e1,e2,h1,?_⟩
  have h3:=e3 xs ws (by rw [hres];exact h2)
  have:=(hg _ _ _ h3).bare (bl':=je)
  rwa [ZP,JF hbare] at this
theorem jcY {L:SLS tb} {G o y args tys} {k:SV tb->List Nat->Option ρ} {r} (ho:o.op=.call { callee:=.value y,args,argTypes:=tys }) (h:jft cx L G y args k=some r):QOk P L G o k r:=by
 unfold jft at h
 obtain ⟨c,hc,h⟩:=jg h
 obtain ⟨xs,hxs,h⟩:=jg h
 have hy:=fun u=>jY (L:=L) (G:=G) u hc
 split at h
 ·rename_i f yQ _
  split at h
  ·rename_i hh hf
   obtain ⟨x,hx,h⟩:=jg (show got (hh.f (xs++yQ)) _=some r from h)
   obtain ⟨g1,g2,g3⟩:=hh.ok _ _ hx
   refine ⟨_,[],h,fun u=>?_⟩
   refine QEx.enter (fn:=hh.fid) (ys:=avL (xs++yQ)) (fun m bl ac w hrd=>?_) g1 g3
   obtain ⟨ws,hrun,hreps⟩:=Zp (yQ:=avL yQ) ho (by have:=hh.call;rwa [Wm hf] at this) (hy u) (zO u hxs) w hrd
   rw [Wm hf]
   refine ⟨ws,hrun,?_⟩
   rw [<- JY] at hreps
   have:=hreps.bare (bl':=je)
   rwa [ZP,JF g2] at this
  obtain ⟨c,hc,h⟩:=jg h
  obtain ⟨h1,h⟩:=jK h
  obtain ⟨ys,need,h,hk⟩:=jep h
  obtain ⟨a,ha,h⟩:=jg h
  obtain ⟨vs,g1,g2,g3⟩:=Uv ha
  obtain ⟨x,hx,h⟩:=bnd_e h
  refine ⟨_,need,h,fun u=>?_⟩
  unfold ansV
  rw [(Wz cx.cd cx.ok c.rs x 0).1]
  have hf:=c.ok0 (jbh h1) g1 ((c.jgv a).symm.trans (hx u.on))
  refine jgw (fn:=c.fid) cx hk g2 g3 hf (fun {m bl ac} w hrd=>?_) (qS (kX (q:=Yh []) (fun _=>rfl) _))
  obtain ⟨ws,hrun,hreps⟩:=Zp (yQ:=avL yQ) ho (by have:=c.call;rwa [zr hc] at this) (hy u) (zO u hxs) w hrd
  rw [zr hc]
  exact ⟨ws,hrun,by rw [JY];exact hreps⟩
 ·rename_i ps rs g f yQ hcl _
  obtain ⟨ys,need,h,hk⟩:=jep h
  obtain ⟨a,ha,h⟩:=jg h
  obtain ⟨g2,g3⟩:=Xc ha
  obtain ⟨x,hx,h⟩:=bnd_e h
  refine ⟨_,need,h,fun u=>?_⟩
  unfold ansV
  rw [(Wz cx.cd cx.ok rs x 0).1]
  obtain ⟨q1,q2,q3⟩:=hcl
  rw [cx.hP] at q1 q3
  have hf:=q3 a x (hx u.on)
  have hbc:Jx (Zn ps a++yQ)=true:=by show yM _ _=true;rw [Qb];rw [show yM _ (Zn ps a)=true from g3,show yM _ yQ=true from q2];rfl
  rcases hk with ⟨rfl,rfl⟩ | ⟨hfl,g',⟨ids,hl⟩,rfl⟩
  ·refine QEx.enter (fn:=f) (ys:=Zn ps a++yQ) (fun m bl ac w hrd=>?_) hf (vV cx _ _)
   obtain ⟨ws,hrun,hreps⟩:=Zp (yQ:=yQ) ho q1 (hy u) (zO u hxs) w hrd
   refine ⟨ws,hrun,?_⟩
   have h4:QG (avL ys++yQ) (Zn ps a++yQ):=g2.append (.refl _)
   have:=(h4 _ _ _ hreps).bare (bl':=je)
   rwa [ZP,JF hbc] at this
  ·refine QEx.jeE (fn:=f) (ys:=Zn ps a++yQ) (fun B m0 h m bl ac w hws hn hrd=>?_) hf (uh x hfl)
   obtain ⟨ws,hrun,hreps⟩:=Zp (yQ:=yQ) ho q1 (hy u) (zO u hxs) w hrd
   obtain ⟨r',bl2,e1,e2,e3⟩:=wt cx hws (ids:=ids) (g:=[]) (r:=[]) (bl1:=bl) hl hn (by simp) (fun i _=>rfl) .nil (by intro p hp;cases hp)
   refine ⟨r',ws,e1,e2,hrun,?_⟩
   obtain ⟨w1,w2,rfl,k1,k2⟩:=Jq.split hreps
   have h3:=e3 xs w1 (by rw [qS (kX (q:=Yh []) (fun _=>rfl) _)];exact k1)
   have h5:=(g2 _ _ _ h3).bare (bl':=je)
   rw [ZP,JF g3] at h5
   have h6:=(k2.mono (Vc hws r')).bare (bl':=je)
   rw [ZP,JF q2] at h6
   exact h5.append h6
 ·cases h
end
end
section
open Go.RowKit
variable [GlC]
section
variable {P:Program} {o:Oper} {e:Env}
def XH:TypeDesc->Bool
 | .interface _=>true
 | _=>false
theorem jf3 {d} (h:XH d=true):∃ ms,d=.interface ms:=by unfold XH at h;split at h;exact ⟨_,rfl⟩;cases h
theorem QEx.mkIfc {t y x d} (ho:o.op=.makeInterface t y) (ht:P.underlying t=some d) (hd:XH d=false) (hy:jF e y x):QEx P o e [] (.ifc t x):=
 .pure fun _ _ _ m bl ac w _ _ hr=>by
  have h1:=hy.rep hr (by simp [ho,Op.operands])
  refine ⟨.iface t (ac.eval y),?_,.ifc h1⟩
  cases d <;> first | (cases hd;done) | simp [execOp,ho,Instr.makeInterface,ji ht]
theorem vT {t ms} (ht:P.underlying t=some (.interface ms)) (d t':Nat) (v:Value) (w:World):(Op.equalIn (d+1) t (.iface t' v) .nilIface).run P w=.ok false w:=by
 simp [Op.equalIn,ji ht]
theorem KT {t ms} (ht:P.underlying t=some (.interface ms)) (d:Nat) (w:World):(Op.equalIn (d+1) t .nilIface .nilIface).run P w=.ok true w:=by
 simp [Op.equalIn,ji ht]
theorem mB (t:TypeId) (x y:Value) (w:World) (hx:(∃ t' v,x=.iface t' v)\/x=.nilIface) (hy:y=.nilIface):(binOp .eql t x y).run P w=((Op.equalIn 10000 t x y).run P w).andThen fun b w'=>.ok (.bool b) w':=by
 subst hy
 rcases hx with ⟨t',v,rfl⟩ | rfl <;> simp [binOp,Op.equal,Op.maxDepth]
theorem mz (t:TypeId) (x y:Value) (w:World) (hx:(∃ t' v,x=.iface t' v)\/x=.nilIface) (hy:y=.nilIface):(binOp .neq t x y).run P w=((Op.equalIn 10000 t x y).run P w).andThen fun b w'=>.ok (.bool (!b)) w':=by
 subst hy
 rcases hx with ⟨t',v,rfl⟩ | rfl <;> simp [binOp,Op.equal,Op.maxDepth]
theorem QEx.ifNil {t y yt ms x b} (neg:Bool) (ho:o.op=.binOp (if neg then .neq else .eql) t y (.const .nilIface) yt) (ht:P.underlying t=some (.interface ms)) (hy:jF e y x)
 (hx:(∃ t' x',x=.ifc t' x'/\b=false)\/(x=.v .nilIface/\b=true)):QEx P o e [] (.v (.bool (b != neg))):=
 .pure fun _ _ _ m bl ac w _ _ hr=>by
  have h1:=hy.rep hr (by simp [ho,Op.operands])
  have hz:ac.eval (.const .nilIface)=.nilIface:=rfl
  have key:∀ v,ac.eval y=v->((∃ t' v',v=.iface t' v'/\b=false)\/(v=.nilIface/\b=true))->(execOp ac.eval o).run P w=.ok (.value (.bool (b != neg))) w:=by
   intro v hv hc
   have hg:∀ op,(eqGuard op t y (.const .nilIface) v .nilIface).run P w=.ok () w:=by
    intro op
    rcases hc with ⟨t',v',rfl,-⟩ | ⟨rfl,-⟩ <;> cases op <;> simp [eqGuard]
   have heq:(Op.equalIn 10000 t v .nilIface).run P w=.ok b w:=by
    rcases hc with ⟨t',v',rfl,rfl⟩ | ⟨rfl,rfl⟩
    ·exact vT ht 9999 t' v' w
    ·exact KT ht 9999 w
   have hs:(∃ t' v',v=.iface t' v')\/v=.nilIface:=by
    rcases hc with ⟨t',v',rfl,-⟩ | ⟨rfl,-⟩
    ·exact .inl ⟨_,_,rfl⟩
    ·exact .inr rfl
   cases neg with
   | false=>
     have h4:=mB (P:=P) t v .nilIface w hs rfl
     rw [heq] at h4
     simp only [Result.andThen_ok] at h4
     simp [execOp,ho,hv,hz,Sem.run_bind,hg,Result.andThen_ok,h4,Sem.run_pure]
   | true=>
     have h4:=mz (P:=P) t v .nilIface w hs rfl
     rw [heq] at h4
     simp only [Result.andThen_ok] at h4
     simp [execOp,ho,hv,hz,Sem.run_bind,hg,Result.andThen_ok,h4,Sem.run_pure]
  rcases hx with ⟨t',x',rfl,hb⟩ | ⟨rfl,hb⟩
  ·generalize hv:ac.eval y=v at h1
   cases h1 with
   | ifc h2=>exact ⟨_,key _ hv (.inl ⟨_,_,rfl,hb⟩),.v⟩
  ·have:=h1.YG
   exact ⟨_,key _ this (.inr ⟨rfl,hb⟩),.v⟩
theorem QEx.ifcOut {y xt t x d} (ho:o.op=.typeAssert y xt t true) (ht:P.underlying t=some d) (hd:XH d=false) (hy:jF e y (.ifc t x)):QEx P o e [] (.tup [x,.v (.bool true)]):=
 .pure fun _ _ _ m bl ac w _ _ hr=>by
  have h1:=hy.rep hr (by simp [ho,Op.operands])
  generalize hv:ac.eval y=v at h1
  cases h1 with
  | ifc h2=>
    rename_i v'
    refine ⟨.tuple #[v',.bool true],?_,.tup (.cons h2 (.cons .v .nil))⟩
    cases d <;> first | (cases hd;done) | simp [execOp,ho,hv,Instr.typeAssert,ji ht]
theorem QEx.QL {t y n E sz c l} (ho:o.op=.sliceToArrayPointer t y) (ht:P.underlying t=some (.array n E)) (hy:jF e y (.sl c sz l)) (hn:n<=l.length) (h0:0<n) (hs:0<sz):QEx P o e [] (.Qf ((l.take n).flatMap AV.cells)):=
 .pure fun _ _ _ m bl ac w _ _ hr=>by
  have h1:=hy.rep hr (by simp [ho,Op.operands])
  generalize hv:ac.eval y=v at h1
  cases h1 with
  | slnil=>simp at hn;omega
  | sl g1 g2 g3 g4 g5 g6 g7=>
    rename_i a cap cs
    have hcl:(l.flatMap AV.cells).length=l.length*sz:=JZ g1
    have hlen:=g2.length
    have hpos:0<cs.length:=by
     rw [<- hlen,hcl];exact Nat.mul_pos (by omega) hs
    have hsp:=g4 hpos
    have hft:(l.take n).flatMap AV.cells=(l.flatMap AV.cells).take (n*sz):=(qX n g1).symm
    refine ⟨.pointer (some a),?_,?_⟩
    ·simp [execOp,ho,hv,Instr.arrayAt,ji ht,Nat.not_lt.2 hn]
    ·obtain ⟨b,off,sp⟩:=a
     simp only at hsp;subst hsp
     rw [hft]
     refine .Qf (g2.take _) (fun c hc=>g3 c (List.mem_of_mem_take hc)) (fun j v e=>g5 j v (uG e))
end
section
variable {P:Program} {tb:Tb} {ρ:Type} {cx:Ctx P tb}
def jf2 (P:Program) (t:Nat):Bool:=match P.underlying t with | some d=>XH d | none=>false
theorem jf1 {t} (h:jf2 P t=true):∃ ms,P.underlying t=some (.interface ms):=by
 unfold jf2 at h
 split at h
 ·obtain ⟨ms,rfl⟩:=jf3 h;exact ⟨ms,‹_›⟩
 ·cases h
def jc7 (P:Program) (t:Nat):Bool:=match P.underlying t with | some d => !XH d | none=>false
theorem jaW {t} (h:jc7 P t=true):∃ d,P.underlying t=some d/\XH d=false:=by
 unfold jc7 at h
 split at h
 ·exact ⟨_,‹_›,by simpa using h⟩
 ·cases h
def qMkI (P:Program) (L:SLS tb) (G:Gd) (t:Nat) (y:Operand) (k:SV tb->List Nat->Option ρ):Option ρ:=
 got (opd L G y) fun a=>tst (jc7 P t) <| k (.ifc t a) []
theorem jfk {L:SLS tb} {G o t y} {k:SV tb->List Nat->Option ρ} {r} (ho:o.op=.makeInterface t y) (h:qMkI P L G t y k=some r):QOk P L G o k r:=by
 unfold qMkI at h
 obtain ⟨a,ha,h⟩:=jg h
 obtain ⟨h1,h⟩:=jK h
 obtain ⟨d,hd,hi⟩:=jaW h1
 exact ⟨_,[],h,fun u=>QEx.mkIfc ho hd hi (jY u ha)⟩
def qOut (P:Program) (L:SLS tb) (G:Gd) (y:Operand) (t:Nat) (k:SV tb->List Nat->Option ρ):Option ρ:=
 got (opd L G y) fun a=>match a with
 | .ifc t' x=>tst (Nat.beq t' t) <| tst (jc7 P t) <| k (.tup [x,.con (.bool true)]) []
 | _=>none
theorem jfi {L:SLS tb} {G o y xt t} {k:SV tb->List Nat->Option ρ} {r} (ho:o.op=.typeAssert y xt t true) (h:qOut P L G y t k=some r):QOk P L G o k r:=by
 unfold qOut at h
 obtain ⟨a,ha,h⟩:=jg h
 have hy:=fun u=>jY (L:=L) (G:=G) u ha
 cases a with
 | ifc t' x=>
   obtain ⟨h1,h⟩:=jK (show tst (Nat.beq t' t) _=some r from h)
   obtain ⟨h2,h⟩:=jK h
   have:=Nat.eq_of_beq_eq_true h1
   rw [<- this] at ho h2
   obtain ⟨d,hd,hi⟩:=jaW h2
   exact ⟨_,[],h,fun u=>QEx.ifcOut ho hd hi (hy u)⟩
 | _=>cases h
def jbe:Operand->Bool
 | .const .nilIface=>true
 | _=>false
theorem jdm {z:Operand} (h:jbe z=true):z=.const .nilIface:=by
 unfold jbe at h
 split at h
 ·rfl
 ·cases h
def jbq:SV tb->Option Bool
 | .ifc _ _=>some false
 | .con .nilIface=>some true
 | _=>none
theorem jds {x:SV tb} {b} (h:jbq x=some b):(∃ t' x',x.av=.ifc t' x'/\b=false)\/(x.av=.v .nilIface/\b=true):=by
 unfold jbq at h
 split at h
 ·cases h;exact .inl ⟨_,_,rfl,rfl⟩
 ·cases h;exact .inr ⟨rfl,rfl⟩
 ·cases h
def jcT (P:Program) (L:SLS tb) (G:Gd) (neg:Bool) (t:Nat) (y:Operand) (k:SV tb->List Nat->Option ρ):Option ρ:=
 got (opd L G y) fun a=>got (jbq a) fun b=>tst (jf2 P t) <| k (.con (.bool (b != neg))) []
theorem Pa {L:SLS tb} {G o neg t y yt} {k:SV tb->List Nat->Option ρ} {r} (ho:o.op=.binOp (if neg then .neq else .eql) t y (.const .nilIface) yt) (h:jcT P L G neg t y k=some r):QOk P L G o k r:=by
 unfold jcT at h
 obtain ⟨a,ha,h⟩:=jg h
 obtain ⟨b,hb,h⟩:=jg h
 obtain ⟨h1,h⟩:=jK h
 obtain ⟨ms,hms⟩:=jf1 h1
 exact ⟨_,[],h,fun u=>QEx.ifNil neg ho hms (jY u ha) (jds hb)⟩
def arrK (cx:Ctx P tb) (E:tb.Ix) (l:List (tb.T E)):Nat->Nat->List (SV tb)->(List (SV tb)->Option ρ)->Option ρ
 | _,0,a,k=>k a
 | i,n+1,a,k=>Let (ixd (cx.cd E).inh l (i:Int)) fun x=>arrK cx E l (i+1) n (a++(cx.cd E).cs x) k
theorem jeP {E:tb.Ix} {l:List (tb.T E)}:∀ {n i:Nat} {a:List (SV tb)} {k:List (SV tb)->Option ρ} {r},arrK cx E l i n a k=some r->i+n<=l.length->avL a=((l.take i).map (tb.el E)).flatMap AV.cells->
 ∃ b,k b=some r/\avL b=((l.take (i+n)).map (tb.el E)).flatMap AV.cells
 | 0,i,a,k,r,h,_,ha=>⟨a,h,ha⟩
 | n + 1,i,a,k,r,h,hl,ha=>by
   have h:=(show arrK cx E l (i+1) n (a++(cx.cd E).cs (ixd (cx.cd E).inh l (i:Int))) k=some r from h)
   have hlt:i<l.length:=by omega
   have hg:=XF (d:=(cx.cd E).inh) (l:=l) (i:=(i:Int)) ⟨by omega,by omega⟩
   rw [Int.toNat_natCast] at hg
   obtain ⟨b,h1,h2⟩:=jeP h (by omega) (by
    rw [JY,ha,(cx.ok E).cs,List.take_succ,hg]
    simp)
   exact ⟨b,h1,by rw [h2,show i+1+n=i+(n+1) by omega]⟩
def qArr (cx:Ctx P tb) (L:SLS tb) (G:Gd) (t:Nat) (y:Operand) (k:SV tb->List Nat->Option ρ):Option ρ:=
 got (opd L G y) fun a=>got (P.underlying t) fun D=>got (xp D) fun p=>match a with
 | .sl _ E l=>tst (Nat.ble 1 p.1) <| chk G (p.1<=l.length) <| arrK cx E l 0 p.1 [] fun b=>k (.cp b) []
 | _=>none
theorem jfv {L:SLS tb} {G o t y} {k:SV tb->List Nat->Option ρ} {r} (ho:o.op=.sliceToArrayPointer t y) (h:qArr cx L G t y k=some r) (hG:G=[]):QOk P L G o k r:=by
 subst hG
 unfold qArr at h
 obtain ⟨a,ha,h⟩:=jg h
 obtain ⟨D,hD,h⟩:=jg h
 obtain ⟨p,hp,h⟩:=jg h
 rw [Ve hp] at hD
 have hy:=fun u=>jY (L:=L) (G:=[]) u ha
 cases a with
 | sl c E l=>
   obtain ⟨h1,h⟩:=jK (show tst (Nat.ble 1 p.1) _=some r from h)
   obtain ⟨hc,h⟩:=Qg h
   have hc:=hc rfl
   obtain ⟨b,h,hb⟩:=jeP h (by omega) (by simp [avL])
   refine ⟨_,[],h,fun u=>?_⟩
   have:=QEx.QL ho hD (hy u) (by rw [List.length_map];exact hc) (Nat.le_of_ble_eq_true h1) (cx.ok E).pos
   rw [<- List.map_take] at this
   simp only [SV.av]
   rw [hb,Nat.zero_add];exact this
 | _=>cases h
theorem QEx.sliceC {o:Oper} {e:Env} {t y E n sz} {l:List AV} (ho:o.op=.slice t y none none none) (hT:P.underlying t=some (.array n E)) (hs:tSz P E=some sz) (hy:jF e y (.Qf (l.flatMap AV.cells)))
 (hl:l.length=n) (hc:∀ x∈l,x.cells.length=sz) (h0:0<n):QEx P o e [] (.sl false sz l):=
 .pure fun _ _ _ m bl ac w _ _ hr=>by
  have h1:=hy.rep hr (by simp [ho,Op.operands])
  generalize hv:ac.eval y=v at h1
  cases h1 with
  | Qf g1 g2 g3=>
    rename_i b off cs
    have e1:(Instr.sliceBounds false n n none none none).run P w=.ok (0,n,n) w:=by simp [Instr.sliceBounds]
    refine ⟨.slice (some ⟨b,off,none⟩) n n,?_,?_⟩
    ·simp only [execOp,ho,hv,Instr.sliceAt,Sem.run_bind,ji hT,Result.andThen_ok,Instr.sureAddr,Option.map_none,e1,jr hs,Sem.run_pure]
     simp [Nat.ne_of_gt h0,yd]
    ·subst hl
     exact .sl hc g1 g2 (fun _=>rfl) g3 (Nat.le_refl _) (fun h=>by cases h)
def jgu (cx:Ctx P tb) (E:tb.Ix):Nat->List (SV tb)->Option (List (tb.T E))
 | 0,l=>match l with | []=>some [] | _::_=>none
 | n+1,l=>got ((cx.cd E).ofC (l.take (tb.sz E))) fun z=>got (jgu cx E n (l.drop (tb.sz E))) fun r=>some (z::r)
theorem PU {E:tb.Ix}:∀ {n:Nat} {l:List (SV tb)} {r},jgu cx E n l=some r->QG (avL l) (elC tb E r)/\r.length=n
 | 0,l,r,h=>by
   cases l with
   | nil=>cases h;exact ⟨.refl _,rfl⟩
   | cons=>cases h
 | n+1,l,r,h=>by
   obtain ⟨z,hz,h⟩:=jg (show got ((cx.cd E).ofC (l.take (tb.sz E))) _=some r from h)
   obtain ⟨r',hr,h⟩:=jg h
   cases h
   have h1:=((cx.ok E).ofC _ _ hz).1
   obtain ⟨g1,g2⟩:=PU hr
   have h2:=h1.append g1
   rw [<- JY,List.take_append_drop] at h2
   exact ⟨h2,by rw [List.length_cons,g2]⟩
def jfw (cx:Ctx P tb) (L:SLS tb) (G:Gd) (t:Nat) (y:Operand) (k:SV tb->List Nat->Option ρ):Option ρ:=
 got (opd L G y) fun a=>got (P.underlying t) fun D=>got (xp D) fun p=>got (tSz P p.2) fun n=>got (tb.look p.2) fun E=>match a with
 | .cp l=>tst (Nat.beq n (tb.sz E)) <| tst (Nat.ble 1 p.1) <| got (jgu cx E p.1 l) fun r=>k (.sl false E r) []
 | _=>none
theorem jcZ {L:SLS tb} {G o t y} {k:SV tb->List Nat->Option ρ} {r} (ho:o.op=.slice t y none none none) (h:jfw cx L G t y k=some r):QOk P L G o k r:=by
 unfold jfw at h
 obtain ⟨a,ha,h⟩:=jg h
 obtain ⟨D,hD,h⟩:=jg h
 obtain ⟨p,hp,h⟩:=jg h
 rw [Ve hp] at hD
 obtain ⟨n,hn,h⟩:=jg h
 obtain ⟨E,hE,h⟩:=jg h
 have hy:=fun u=>jY (L:=L) (G:=G) u ha
 cases a with
 | cp l=>
   have g1:=jK h
   have g2:=jK g1.2
   obtain ⟨q,hq,g3⟩:=jg g2.2
   obtain ⟨c1,c2⟩:=PU hq
   refine ⟨_,[],g3,fun u=>?_⟩
   rw [Nat.eq_of_beq_eq_true g1.1] at hn
   have hy2:jF L.E y (.Qf ((q.map (tb.el E)).flatMap AV.cells)):=(hy u).sub (.Qf c1)
   exact QEx.sliceC ho hD hn hy2 (by rw [List.length_map];exact c2) (Yo cx.ok) (Nat.le_of_ble_eq_true g2.1)
 | _=>cases h
def isCp:Option (SV tb)->Bool
 | some (.cp _)=>true
 | _=>false
end
end
section
open Go.RowKit
variable [GlC]
section
variable {P:Program} {o:Oper} {e:Env}
theorem QEx.je6 {t y hi mx E sz by_ id k k' need} {xs:List AV} (ho:o.op=.slice t y none (some hi) (some mx)) (ht:Zm P t E sz by_) (hy:jF e y (.rw id sz)) (hn:(id,xs.flatMap AV.cells)∈need) (hxs:∀ x∈xs,x.cells.length=sz) (hp:0<sz)
 (hhi:jF e hi (.v (.int k xs.length))) (hmx:jF e mx (.v (.int k' xs.length))):QEx P o e need (.rw id sz):=
 .pure fun _ _ _ m bl ac w hws hnd hr=>by
  have q1:=hy.rep hr (by simp [ho,Op.operands])
  have q2:=(hhi.rep hr (by simp [ho,Op.operands])).YG
  have q3:=(hmx.rep hr (by simp [ho,Op.operands])).YG
  generalize hv:ac.eval y=v at q1
  have hf:=hnd _ hn
  have hfl:=JZ hxs
  cases q1 with
  | rwnil hb=>
    rename_i ad
    have:xs=[]:=by
     rcases hws.blk id _ hf with ⟨-,g⟩ | ⟨b,n,arr,T,pre,rest,g1,-⟩
     ·rw [show (xs.flatMap AV.cells)=[] from g] at hfl
      rcases Nat.mul_eq_zero.1 (show xs.length*sz=0 by rw [<- hfl];rfl) with h | h
      ·exact List.eq_nil_of_length_eq_zero h
      ·omega
     ·rw [g1] at hb;cases hb
    subst this
    refine ⟨.slice ad 0 0,?_,.rwnil hb⟩
    simp [execOp,ho,hv,Instr.sliceAt,ji ht.under,Instr.slice,Instr.sliceBounds,q2,q3,Instr.sliceBound,asIntOf,jr ht.sz,Addr.add]
  | rw hb g1 g2 g3=>
    rename_i b n cap len
    obtain ⟨arr,T,pre,rest,r1,r2,r3,r4,r5⟩:=hws.at_ hf hb
    have hn2:n.2=pre.length:=by rw [<- r2]
    have:len=xs.length:=Nat.eq_of_mul_eq_mul_right hp (by rw [g1,hn2,<- r4.length,hfl])
    subst this
    refine ⟨.slice (some ⟨b,0,none⟩) xs.length xs.length,?_,.rw hb g1 (Nat.le_refl _) (Nat.le_trans (Nat.mul_le_mul_right _ g2) g3)⟩
    have hc:(xs.length:Int)<=(cap:Int):=by omega
    have h0:0<=(xs.length:Int):=by omega
    simp [execOp,ho,hv,Instr.sliceAt,ji ht.under,Instr.slice,Instr.sliceBounds,q2,q3,Instr.sliceBound,asIntOf,jr ht.sz,Addr.add,h0,hc]
    try (intro h;omega)
end
section
variable {P:Program} {tb:Tb} {ρ:Type} {cx:Ctx P tb}
def pY (L:SLS tb) (G:Gd) (t id:Nat) (E:tb.Ix) (hi mx:Operand) (P:Program) (k:SV tb->List Nat->Option ρ):Option ρ:=
 got (opd L G hi) fun b=>got (asI b) fun p=>got (opd L G mx) fun c=>got (asI c) fun q=>got (VX P t (tb.sz E)) fun _=>got (QL L id E) fun l=>chk G (p.2=(l.length:Int)/\q.2=(l.length:Int)) (k (.rw id E) [id])
def uU (cx:Ctx P tb) (L:SLS tb) (G:Gd) (t:Nat) (y hi mx:Operand) (k:SV tb->List Nat->Option ρ):Option ρ:=match opd L G y with
 | some (.rw id E)=>pY L G t id E hi mx P k
 | _=>Xn P L G t y hi mx k
theorem Xl {L:SLS tb} {G o t y hi mx} {k:SV tb->List Nat->Option ρ} {r} (ho:o.op=.slice t y none (some hi) (some mx)) (h:uU cx L G t y hi mx k=some r):QOk P L G o k r:=by
 unfold uU at h
 split at h
 ·rename_i id E ha
  unfold pY at h
  obtain ⟨b,hb,h⟩:=jg h
  obtain ⟨p,hp,h⟩:=jg h
  obtain ⟨c,hc1,h⟩:=jg h
  obtain ⟨q,hq,h⟩:=jg h
  obtain ⟨ET,hE,h⟩:=jg h
  obtain ⟨l,hl,h⟩:=jg h
  have hl:=YF hl
  obtain ⟨hc,h⟩:=Qg h
  have hy:=fun u=>jY (L:=L) (G:=G) u ha
  have hz:=fun u=>jY (L:=L) (G:=G) u hb
  have hw:=fun u=>jY (L:=L) (G:=G) u hc1
  rw [zI hp] at hz
  rw [zI hq] at hw
  refine ⟨_,_,h,fun u=>?_⟩
  rw [JT hl]
  obtain ⟨h1,h2⟩:=hc u.on
  rw [h1] at hz
  rw [h2] at hw
  exact QEx.je6 (xs:=l.map (tb.el E)) ho (Ze hE) (hy u) (show _∈[(id,elC tb E l)] from jcA) (Yo cx.ok) (cx.ok E).pos (by rw [List.length_map];exact hz u) (by rw [List.length_map];exact hw u)
 ·exact mH ho h
end
end
section
open Go.RowKit
variable [GlC]
section
variable {P:Program} {tb:Tb} {ρ:Type} {cx:Ctx P tb}
def jcg (c:Call):Option (Operand × Nat):=match c.args.toList,c.argTypes.toList with
 | [y],[t]=>some (y,t)
 | _,_=>none
theorem XY {c:Call} {p} (h:jcg c=some p):c.args=#[p.1]/\c.argTypes=#[p.2]:=by
 unfold jcg at h
 split at h
 ·rename_i y t h1 h2
  cases h
  exact ⟨Array.toArray_toList.symm.trans (by rw [h1]),Array.toArray_toList.symm.trans (by rw [h2])⟩
 ·cases h
def WW (c:Call):Option (Operand × Operand):=match c.args.toList with
 | [y,z]=>some (y,z)
 | _=>none
theorem Vw {c:Call} {p} (h:WW c=some p):c.args=#[p.1,p.2]:=by
 unfold WW at h
 split at h
 ·rename_i y z h1
  cases h
  exact Array.toArray_toList.symm.trans (by rw [h1])
 ·cases h
def wF (c:Call):Option (Nat × Nat):=match c.argTypes.toList with
 | [y,z]=>some (y,z)
 | _=>none
theorem wc {c:Call} {p} (h:wF c=some p):c.argTypes=#[p.1,p.2]:=by
 unfold wF at h
 split at h
 ·rename_i y z h1
  cases h
  exact Array.toArray_toList.symm.trans (by rw [h1])
 ·cases h
def jax (cx:Ctx P tb) (L:SLS tb) (G:Gd) (c:Call) (k:SV tb->List Nat->Option ρ):Option ρ:=match c.callee with
 | .value y=>jft cx L G y c.args k
 | .builtin b=>(match b with
   | .len=>got (jcg c) fun p=>jfo cx L G p.1 p.2 k
   | .cap=>got (jcg c) fun p=>qCap P L G p.1 p.2 k
   | .max=>got (WW c) fun p=>qMM L G true p.1 p.2 k
   | .min=>got (WW c) fun p=>qMM L G false p.1 p.2 k
   | _=>none)
 | _=>none
theorem jaw {L:SLS tb} {G o c} {k:SV tb->List Nat->Option ρ} {r} (ho:o.op=.call c) (h:jax cx L G c k=some r):QOk P L G o k r:=by
 obtain ⟨ce,ar,ty⟩:=c
 unfold jax at h
 split at h
 ·rename_i y hy
  simp only at hy;subst hy
  exact jcY (cx:=cx) ho h
 ·rename_i b hb
  simp only at hb;subst hb
  split at h
  ·obtain ⟨p,hp,h⟩:=jg h
   obtain ⟨h1,h2⟩:=XY hp
   simp only at h1 h2;subst h1 h2
   exact jcW (cx:=cx) ho h
  ·obtain ⟨p,hp,h⟩:=jg h
   obtain ⟨h1,h2⟩:=XY hp
   simp only at h1 h2;subst h1 h2
   exact jfs ho h
  ·obtain ⟨p,hp,h⟩:=jg h
   have h1:=Vw hp
   simp only at h1;subst h1
   exact jef (.inl ⟨rfl,ho⟩) h
  ·obtain ⟨p,hp,h⟩:=jg h
   have h1:=Vw hp
   simp only at h1;subst h1
   exact jef (.inr ⟨rfl,ho⟩) h
  ·cases h
 ·cases h
def qop (cx:Ctx P tb) (L:SLS tb) (G:Gd) (op:Op) (k:SV tb->List Nat->Option ρ):Option ρ:=match op with
 | .move y=>jcU L G y k
 | .assign y=>jcU L G y k
 | .pick c y z=>jfh L G c y z k
 | .load t y=>jfm cx L G t y k
 | .nilCheck y=>qNil L G y k
 | .binOp op t y z yt=>(match jbe z with
   | true=>(match op with
     | .eql=>jcT P L G false t y k
     | .neq=>jcT P L G true t y k
     | _=>none)
   | false=>qBin cx L G op t y z yt k)
 | .unOp op _ y=>qUn L G op y k
 | .convert s d y=>jav cx L G s d y k
 | .slice t y lo hi mx=>(match mx with
   | none=>(match lo,hi,isCp (opd L G y) with
     | none,none,true=>jfw cx L G t y k
     | _,_,_=>Xk cx L G t y lo hi k)
   | some m=>match lo,hi with
     | none,some h=>uU cx L G t y h m k
     | some l,some h=>uV cx L G t y l h m k
     | _,_=>none)
 | .fieldAddr t y f=>Xo P L G t y f k
 | .field t y f=>jat P L G t y f k
 | .indexAddr t y z=>qIxA cx L G t y z k
 | .index t y z=>qIx cx L G t y z k
 | .extract y i=>qExt L G y i k
 | .build t ps=>jaz P L G t ps k
 | .buildSlice t n ps=>Xp cx L G t n ps k
 | .makeFunc fn fi ca=>qMkF L G fn fi ca k
 | .call c=>jax cx L G c k
 | .makeInterface t y=>qMkI P L G t y k
 | .typeAssert y _ t true=>qOut P L G y t k
 | .sliceToArrayPointer t y=>(match G with
   | []=>qArr cx L [] t y k
   | _::_=>none)
 | _=>none
theorem jec {L:SLS tb} {G o} {k:SV tb->List Nat->Option ρ} {r} (h:qop cx L G o.op k=some r):QOk P L G o k r:=by
 unfold qop at h
 split at h
 ·exact Pb (.inl ‹_›) h
 ·exact Pb (.inr ‹_›) h
 ·exact jcS ‹_› h
 ·exact jcV (cx:=cx) ‹_› h
 ·exact jfj ‹_› h
 ·rename_i ho
  split at h
  ·rename_i hz
   rw [jdm hz] at ho
   split at h
   ·exact Pa (neg:=false) ho h
   ·exact Pa (neg:=true) ho h
   ·cases h
  ·exact jfu (cx:=cx) ho h
 ·exact qUn_ok ‹_› h
 ·exact jau (cx:=cx) ‹_› h
 ·split at h
  ·split at h
   ·exact jcZ (cx:=cx) ‹_› h
   ·exact mG (cx:=cx) ‹_› h
  ·split at h
   ·exact Xl (cx:=cx) ‹_› h
   ·exact Xm (cx:=cx) ‹_› h
   ·cases h
 ·exact mJ ‹_› h
 ·exact jas ‹_› h
 ·exact jfp (cx:=cx) ‹_› h
 ·exact qIx_ok (cx:=cx) ‹_› h
 ·exact jfq ‹_› h
 ·exact jay ‹_› h
 ·exact mL (cx:=cx) ‹_› h
 ·exact jfl ‹_› h
 ·exact jaw (cx:=cx) ‹_› h
 ·exact jfk ‹_› h
 ·exact jfi ‹_› h
 ·split at h
  ·exact jfv (cx:=cx) ‹_› h rfl
  ·cases h
 ·cases h
structure KL where
 re:List Nat
 rh:List Nat
 we:List Nat
 wh:List Nat
 nm:List Nat
structure KOf (c:Loc) (κ:KL):Prop where
 re:∀ p∈c.re,p.1∈κ.re
 rh:∀ p∈c.rh,p.1∈κ.rh
 we:∀ p∈c.we,p.1∈κ.we
 wh:∀ p∈c.wh,p.1∈κ.wh
 nm:c.nm=κ.nm
theorem Yu {e:Env}:∀ {ts:List Nat},∀ p∈vY e ts,p.1∈ts
 | [],p,h=>by simp [vY] at h
 | t :: ts,p,h=>by
   simp only [vY] at h
   split at h
   ·rcases List.mem_cons.1 h with rfl | h
    ·exact List.mem_cons_self
    ·exact List.mem_cons_of_mem _ (Yu p h)
   ·exact List.mem_cons_of_mem _ (Yu p h)
theorem Ky {L:SLS tb}:∀ {ids},∀ p∈yJ L ids,p.1∈ids
 | [],p,h=>by simp [yJ] at h
 | id::r,p,h=>by
   simp only [yJ] at h
   split at h
   ·rcases List.mem_cons.1 h with rfl | h
    ·exact List.mem_cons_self
    ·exact List.mem_cons_of_mem _ (Ky p h)
   ·exact List.mem_cons_of_mem _ (Ky p h)
def RI (gs:List Nat) (e:ka tb):Prop:=∀ t G x,find t e=some (.opt G x)->GD e G/\G≠[]/\∀ g∈G,g.1∈gs
theorem RI.inv {gs} {e:ka tb} (h:RI gs e):GInv e:=fun t G x hf=>⟨(h t G x hf).1,(h t G x hf).2.1⟩
def vg:SV tb->Bool
 | .opt _ _=>false
 | _=>true
def vp (d:Nat):List Nat->Bool
 | []=>false
 | x::l=>match Nat.beq d x with | true=>true | false=>vp d l
theorem VH {d:Nat}:∀ {l:List Nat},vp d l=true↔d∈l
 | []=>by simp [vp]
 | x :: l=>by
   simp only [vp,List.mem_cons]
   split
   ·rename_i h;simp [Nat.eq_of_beq_eq_true h]
   ·rename_i h
    have:d≠x:=fun e=>by subst e;rw [Nat.beq_refl] at h;cases h
    rw [VH];simp [this]
theorem GD.put {e:ka tb} {d x}:∀ {G:Gd},GD e G->(∀ g∈G,g.1≠d)->GD ((d,x)::e) G
 | [],_,_=>trivial
 | (s,w,t)::G,h,hn=>by
   obtain ⟨h1,y,hy,h2⟩:=h
   have hs:d≠s:=Ne.symm (hn (s,w,t) (by simp))
   refine ⟨GD.put h1 fun g hg=>hn g (List.mem_cons_of_mem _ hg),y,hy,?_⟩
   rw [jj,if_neg hs]
   exact h2
theorem RI.put {gs} {e:ka tb} {d x} (h:RI gs e) (hd:vp d gs=false) (hx:vg x=true):RI gs ((d,x)::e):=by
 have hd':∀ g∈gs,g≠d:=by rintro g hg rfl;rw [VH.2 hg] at hd;cases hd
 intro t G y hf
 rw [jj] at hf
 split at hf
 ·cases hf;cases hx
 ·obtain ⟨h1,h2,h3⟩:=h t G y hf
  exact ⟨h1.put fun g hg=>hd' _ (h3 g hg),h2,h3⟩
theorem RI.putG {gs} {e:ka tb} {d x s G} (h:RI gs e) (hd:vp d (s::gs)=false) (hG:GD e G) (h0:G≠[]) (hs:∀ g∈G,g.1∈s::gs):RI (s::gs) ((d,.opt G x)::e):=by
 have hd':∀ g∈s::gs,g≠d:=by rintro g hg rfl;rw [VH.2 hg] at hd;cases hd
 intro t G' y hf
 rw [jj] at hf
 split at hf
 ·cases hf
  exact ⟨hG.put fun g hg=>hd' _ (hs g hg),h0,hs⟩
 ·obtain ⟨h1,h2,h3⟩:=h t G' y hf
  have h4:∀ g∈G',g.1∈s::gs:=fun g hg=>List.mem_cons_of_mem _ (h3 g hg)
  exact ⟨h1.put fun g hg=>hd' _ (h4 g hg),h2,h4⟩
def LOk (P:Program) (N:Nat) (ops:Array Oper) (o:Oper) (L:SLS tb) (k:SLS tb->List Nat->KL->Option ρ) (r:ρ):Prop:=
 ∃ (L':SLS tb) (gs:List Nat) (κ:KL) (c:Loc),k L' gs κ=some r/\KOf c κ/\LEx P ops N o c/\(∀ p∈c.re,find p.1 L.av.e=some p.2)/\(∀ p∈c.rh,find p.1 L.av.h=some p.2)/\
   (∀ d∈c.nm,L.nx<=d/\d<L'.nx)/\L.nx<=L'.nx/\L'.s=L.s/\L'.gn=L.gn/\L'.av.e=c.we++L.av.e/\L'.av.h=c.wh++L.av.h/\
   (∃ p,L'.e=p++L.e)/\(∃ p,L'.h=p++L.h)/\RI gs L'.e
def put (N:Nat) (gs:List Nat) (L:SLS tb) (d:Nat) (x:SV tb) (k:SLS tb->Option ρ):Option ρ:=
 tst (Nat.blt d N) <| tst (!vp d gs) <| tst (x.has (Yh L.gn)) <| k { L with e:=(d,x)::L.e }
theorem WQ {N gs} {L:SLS tb} {d x} {k:SLS tb->Option ρ} {r} (h:put N gs L d x k=some r):d<N/\vp d gs=false/\x.res L.gn=x/\k { L with e:=(d,x)::L.e }=some r:=by
 obtain ⟨h1,h⟩:=jK h
 obtain ⟨h2,h⟩:=jK h
 obtain ⟨h3,h⟩:=jK h
 exact ⟨Nat.le_of_ble_eq_true h1,by simpa using h2,qR h3,h⟩
def lq (cx:Ctx P tb) (N:Nat) (ops:Array Oper) (L:SLS tb) (gs:List Nat) (o:Oper) (k:SLS tb->List Nat->KL->Option ρ):Option ρ:=
 qop cx L [] o.op fun x need=>match o.dst with
 | some d=>tst (vg x) <| put N gs L d x fun L'=>k L' gs ⟨o.looksAt ops,need,[d],[],[]⟩
 | none=>k L gs ⟨o.looksAt ops,need,[],[],[]⟩
theorem Gu.nil {L:SLS tb} (h:GInv L.e):Gu L []:=⟨h,trivial,rfl⟩
theorem Qo {L:SLS tb} {need}:∀ p∈kD (yJ L need),p.1∈need:=by
 intro p hp
 obtain ⟨p',hp',rfl⟩:=List.mem_map.1 hp
 exact Ky p' hp'
theorem mW {N ops} {L:SLS tb} {gs o} {k:SLS tb->List Nat->KL->Option ρ} {r} (hi:RI gs L.e) (hg:o.guard=none) (h:lq cx N ops L gs o k=some r):LOk P N ops o L k r:=by
 unfold lq at h
 obtain ⟨x,need,h,q⟩:=jec (cx:=cx) h
 have q:=q (Gu.nil hi.inv)
 split at h
 ·rename_i d hd
  obtain ⟨ho,h⟩:=jK h
  obtain ⟨hN,hm,hx,h⟩:=WQ h
  refine ⟨_,_,_,_,h,⟨Yu,Qo,by simp,by simp,rfl⟩,LEx.q hg q hd hN,qo.1,Yg.2 YQ,by simp,Nat.le_refl _,rfl,rfl,?_,rfl,⟨[_],rfl⟩,⟨[],rfl⟩,hi.put hm ho⟩
  show (d,(x.res L.gn).av)::_=_
  rw [hx];rfl
 ·rename_i hd
  exact ⟨_,_,_,_,h,⟨Yu,Qo,by simp,by simp,rfl⟩,LEx.qn hg q hd,qo.1,Yg.2 YQ,by simp,Nat.le_refl _,rfl,rfl,rfl,rfl,⟨[],rfl⟩,⟨[],rfl⟩,hi⟩
def lg (cx:Ctx P tb) (N:Nat) (ops:Array Oper) (L:SLS tb) (gs:List Nat) (o:Oper) (j:Nat) (w:Bool) (k:SLS tb->List Nat->KL->Option ρ):Option ρ:=
 got o.dst fun d=>got ((ops[j]?).bind (·.dst)) fun s=>got (gdAt L.e s w) fun G=>
 qop cx L G o.op fun x need=>put N (s::gs) L d (.opt G x) fun L'=>k L' (s::gs) ⟨o.looksAt ops,need,[d],[],[]⟩
theorem jf9 {gs} {e:ka tb} {s w G} (hi:RI gs e) (h:gdAt e s w=some G):∃ b G',G=(s,w,b)::G'/\GD e G/\∀ g∈G,g.1∈s::gs:=by
 unfold gdAt at h
 split at h
 ·rename_i G' y hf
  split at h
  ·cases h
  ·rename_i g G'
   split at h
   ·rename_i b hb
    cases h
    obtain ⟨h1,h2,h3⟩:=hi _ _ _ hf
    refine ⟨b,g::G',rfl,⟨h1,y,hb,.inr ⟨hf,by simp⟩⟩,?_⟩
    intro p hp
    rcases List.mem_cons.1 hp with rfl | hp
    ·simp
    ·exact List.mem_cons_of_mem _ (h3 p hp)
   ·cases h
 ·rename_i y hne hf
  split at h
  ·rename_i b hb
   cases h
   exact ⟨b,[],rfl,⟨trivial,y,hb,.inl ⟨hf,rfl⟩⟩,by simp⟩
  ·cases h
 ·cases h
theorem lg_ok {N ops} {L:SLS tb} {gs o j w} {k:SLS tb->List Nat->KL->Option ρ} {r} (hi:RI gs L.e) (hg:o.guard=some (j,w)) (h:lg cx N ops L gs o j w k=some r):LOk P N ops o L k r:=by
 unfold lg at h
 obtain ⟨d,hd,h⟩:=jg h
 obtain ⟨s,hs,h⟩:=jg h
 obtain ⟨G,hG,h⟩:=jg h
 obtain ⟨x,need,h,q⟩:=jec (cx:=cx) h
 obtain ⟨hN,hm,hx,h⟩:=WQ h
 obtain ⟨b,G',rfl,hGD,hgs⟩:=jf9 hi hG
 have hc:gc ((s,w,b)::G')=(gc G'&&(b==w)):=by rw [Mg,Mg];rfl
 refine ⟨_,_,_,_,h,⟨Yu,Qo,by simp,by simp,rfl⟩,LEx.g (x:=x.av) (c:=gc G') (t:=b) hg hs hGD.gv (fun hc2=>q ⟨hi.inv,hGD,by rw [hc];exact hc2⟩) hd hN,qo.1,Yg.2 YQ,by simp,Nat.le_refl _,rfl,rfl,?_,rfl,⟨[_],rfl⟩,⟨[],rfl⟩,hi.putG hm hGD (by simp) hgs⟩
 show (d,((SV.opt _ x).res L.gn).av)::_=_
 rw [hx]
 show (d,AV.opt (gc ((s,w,b)::G')) x.av)::_=_
 rw [hc];rfl
end
end
section
open Go.RowKit
variable [GlC]
theorem Zk.subB {B m0 id Z Z' h m bl w} (s:Zk B m0 ((id,.cells Z)::h) m bl w) (hs:QG Z Z'):Zk B m0 ((id,.cells Z')::h) m bl w:=by
 refine ⟨s.imm,s.le,s.grow,?_,?_,s.own,s.inj,s.gl⟩
 ·intro i l hf
  rw [jj] at hf
  split at hf
  ·rename_i hi;subst hi
   cases hf
   rcases s.blk id Z (by rw [jj,if_pos rfl]) with ⟨h1,h2⟩ | ⟨b,n,arr,T,pre,rest,g1,g2,g3,g4,g5,g6⟩
   ·refine .inl ⟨h1,?_⟩
    subst h2
    have:=hs m bl [] .nil
    cases this;rfl
   ·exact .inr ⟨b,n,arr,T,pre,rest,g1,g2,g3,g4,hs _ _ _ g5,g6⟩
  ·rename_i hi
   exact s.blk i l (by rw [jj,if_neg hi];exact hf)
 ·intro i x p hf
  rw [jj] at hf
  split at hf
  ·cases hf
  ·rename_i hi
   exact s.it i x p (by rw [jj,if_neg hi];exact hf)
theorem LEx.wsub {P ops N o re rh we id Z Z' nm} (h:LEx P ops N o ⟨re,rh,we,[(id,.cells Z)],nm⟩) (hs:QG Z Z'):LEx P ops N o ⟨re,rh,we,[(id,.cells Z')],nm⟩:=by
 intro e s h0 f f' h1 h2 h3 h4 W0 m0 sa m bl a w S next Q k
 refine h e s h0 f f' h1 h2 h3 h4 W0 m0 sa m bl a w S next Q ?_
 intro a' w' m' bl' S'
 exact k a' w' m' bl' ⟨S'.defers,S'.size,S'.below,S'.ws.subB hs,S'.env,S'.stk,S'.free⟩
section
variable {P:Program} {tb:Tb} {ρ:Type} {cx:Ctx P tb}
def jfx (L:SLS tb) (id:Nat) (c:SC tb) (k:SLS tb->Option ρ):Option ρ:=tst (Yh L.gn id) <| tst (c.has (Yh L.gn)) <| k { L with h:=(id,c)::L.h }
theorem SC.qR {g:Gn tb} {c:SC tb} (h:c.has (Yh g)=true):c.res g=c:=by
 cases c with
 | cells l=>show SC.cells _=_;rw [qS h]
 | arr E l=>rfl
 | iter s p=>rfl
theorem wP {L:SLS tb} {id c} {k:SLS tb->Option ρ} {r} (h:jfx L id c k=some r):avH L.gn ((id,c)::L.h)=(id,c.av)::avH L.gn L.h/\k { L with h:=(id,c)::L.h }=some r:=by
 obtain ⟨h1,h⟩:=jK h
 obtain ⟨h2,h⟩:=jK h
 refine ⟨?_,h⟩
 unfold avH
 rw [List.filter_cons,if_pos h1,List.map_cons,SC.qR h2]
def mM (N:Nat) (gs:List Nat) (L:SLS tb) (d:Nat) (x:SV tb) (c:SC tb) (k:SLS tb->Option ρ):Option ρ:=
 tst (vg x) <| put N gs L d x fun L'=>jfx L' L.nx c fun L''=>k { L'' with nx:=L.nx+1 }
def chop (cx:Ctx P tb) (E:tb.Ix):Nat->List (SV tb)->Option (List (tb.T E))
 | 0,l=>tst (isE l) (some [])
 | n+1,l=>got ((cx.cd E).ofC (l.take (tb.sz E))) fun z=>got (chop cx E n (l.drop (tb.sz E))) fun r=>some (z::r)
theorem XR {E:tb.Ix}:∀ {n:Nat} {l:List (SV tb)} {r},chop cx E n l=some r->QG (avL l) (elC tb E r)
 | 0,l,r,h=>by
   obtain ⟨h1,h⟩:=jK h
   cases h
   rw [jbh h1];exact .refl _
 | n+1,l,r,h=>by
   obtain ⟨z,hz,h⟩:=jg (show got ((cx.cd E).ofC (l.take (tb.sz E))) _=some r from h)
   obtain ⟨r',hr,h⟩:=jg h
   cases h
   have h1:=((cx.ok E).ofC _ _ hz).1
   have h2:=h1.append (XR hr)
   rw [<- JY,List.take_append_drop] at h2
   exact h2
def bigAr:TypeDesc->Option (Nat × Nat)
 | .array n e=>match Nat.blt 4 n with | true=>some (n,e) | false=>none
 | _=>none
def someAr:TypeDesc->Option (Nat × Nat)
 | .array n e=>some (n,e)
 | _=>none
def ja7 (cx:Ctx P tb) (N:Nat) (ops:Array Oper) (L:SLS tb) (gs:List Nat) (o:Oper) (T:Nat) (im:Bool) (k:SLS tb->List Nat->KL->Option ρ):Option ρ:=
 got o.dst fun d=>got (mr P T) fun Z=>match (P.underlying T).bind (match im with | true=>someAr | false=>bigAr) with
 | some p=>got (tb.look p.2) fun E=>got (chop cx E p.1 Z) fun l=>mM N gs L d (.ptr L.nx 0) (.arr E l) fun L'=>k L' gs ⟨o.looksAt ops,[],[d],[L.nx],[L.nx]⟩
 | none=>mM N gs L d (.ptr L.nx 0) (.cells Z) fun L'=>k L' gs ⟨o.looksAt ops,[],[d],[L.nx],[L.nx]⟩
theorem ZE {N ops} {L:SLS tb} {gs o d x c Z} {rh:Hp} {k:SLS tb->List Nat->KL->Option ρ} {κ r} (hi:RI gs L.e) (hc:c.av=.cells Z)
 (hl:d<N->LEx P ops N o ⟨vY L.E (o.looksAt ops),rh,[(d,x.av)],[(L.nx,.cells Z)],[L.nx]⟩) (hrh:∀ p∈rh,find p.1 L.av.h=some p.2) (hk:∀ p∈rh,p.1∈κ.rh) (h1:κ.re=o.looksAt ops) (h2:κ.we=[d]) (h3:κ.wh=[L.nx]) (h4:κ.nm=[L.nx])
 (h:mM N gs L d x c (fun L'=>k L' gs κ)=some r):LOk P N ops o L k r:=by
 unfold mM at h
 obtain ⟨ho,h⟩:=jK h
 obtain ⟨hN,hm,hx,h⟩:=WQ h
 obtain ⟨hh,h⟩:=wP h
 refine ⟨_,_,_,_,h,⟨?_,hk,?_,?_,h4.symm⟩,hl hN,qo.1,hrh,?_,Nat.le_succ _,rfl,rfl,?_,?_,⟨[_],rfl⟩,⟨[_],rfl⟩,hi.put hm ho⟩
 ·rw [h1];exact Yu
 ·rw [h2];simp
 ·rw [h3];simp
 ·intro y hy;simp at hy;subst hy;exact ⟨Nat.le_refl _,Nat.lt_succ_self _⟩
 ·show (d,(x.res L.gn).av)::_=_
  rw [hx];rfl
 ·show avH L.gn ((L.nx,c)::L.h)=_
  rw [hh,hc];rfl
theorem ja6 {N ops} {L:SLS tb} {gs o T im} {k:SLS tb->List Nat->KL->Option ρ} {r} (hi:RI gs L.e) (hg:o.guard=none) (ho:o.op=.alloc T) (h:ja7 cx N ops L gs o T im k=some r):LOk P N ops o L k r:=by
 unfold ja7 at h
 obtain ⟨d,hd,h⟩:=jg h
 obtain ⟨Z,hZ,h⟩:=jg h
 split at h
 ·obtain ⟨E,hE,h⟩:=jg h
  obtain ⟨l,hl,h⟩:=jg h
  exact ZE (rh:=[]) hi rfl (fun hN=>(LEx.alloc hg ho (vQ hZ) hd hN).wsub (XR hl)) (by simp) (by simp) rfl rfl rfl rfl h
 exact ZE (rh:=[]) hi rfl (fun hN=>LEx.alloc hg ho (vQ hZ) hd hN) (by simp) (by simp) rfl rfl rfl rfl h
def lBox (N:Nat) (ops:Array Oper) (L:SLS tb) (gs:List Nat) (o:Oper) (y:Operand) (im:Bool) (k:SLS tb->List Nat->KL->Option ρ):Option ρ:=
 got o.dst fun d=>got (opd L [] y) fun x=>tst (wH x) (match im with
 | true=>tst (UG (fun _=>false) (Ql x)) <| put N gs L d (.cp (Ql x)) fun L'=>k L' gs ⟨o.looksAt ops,[],[d],[],[]⟩
 | false=>mM N gs L d (.ptr L.nx 0) (.cells (Ql x)) fun L'=>k L' gs ⟨o.looksAt ops,[],[d],[L.nx],[L.nx]⟩)
theorem jfT {N ops} {L:SLS tb} {gs o T y im} {k:SLS tb->List Nat->KL->Option ρ} {r} (hi:RI gs L.e) (hg:o.guard=none) (ho:o.op=.box T y) (h:lBox N ops L gs o y im k=some r):LOk P N ops o L k r:=by
 unfold lBox at h
 obtain ⟨d,hd,h⟩:=jg h
 obtain ⟨x,hx,h⟩:=jg h
 obtain ⟨hs,h⟩:=jK h
 obtain ⟨g1,g2⟩:=uI hs
 have hy:=jY (Gu.nil hi.inv) hx
 split at h
 ·obtain ⟨hb,h⟩:=jK h
  obtain ⟨hN,hm,hx2,h⟩:=WQ h
  have hb2:=zo hb
  rw [g2] at hb2
  refine ⟨_,_,_,_,h,⟨Yu,by simp [kD],by simp,by simp,rfl⟩,LEx.q hg (QEx.boxC ho hy g1 hb2) hd hN,qo.1,by simp [kD],by simp,Nat.le_refl _,rfl,rfl,?_,rfl,⟨[_],rfl⟩,⟨[],rfl⟩,hi.put hm rfl⟩
  show (d,AV.Qf (avL (Ql x)))::_=_
  rw [g2];rfl
 ·exact ZE (rh:=[]) hi (by show uC.cells _=_;rw [g2]) (fun hN=>LEx.box hg ho hy g1 hd hN) (by simp) (by simp) rfl rfl rfl rfl h
/-! stores -/
def ja3 (cx:Ctx P tb) (ops:Array Oper) (L:SLS tb) (gs:List Nat) (o:Oper) (t:Nat) (y z:Operand) (k:SLS tb->List Nat->KL->Option ρ):Option ρ:=match o.dst with
 | some _=>none
 | none=>got (opd L [] y) fun p=>got (opd L [] z) fun x=>got (tSz P t) fun n=>tst (wH x) <| tst (Nat.beq (Ql x).length n) (match p with
   | .ptr id off=>got (Zg L id) fun l=>tst (Nat.ble (off+n) l.length) <| jfx L id (.cells (l.take off++Ql x++l.drop (off+n))) fun L'=>k L' gs ⟨o.looksAt ops,[id],[],[id],[]⟩
   | .epr id E i fo=>got (QL L id E) fun l=>tst (Nat.ble (fo+n) (tb.sz E)) <| Chk (0<=i/\i<l.length) <| got ((cx.cd E).ofC (((cx.cd E).cs (ixd (cx.cd E).inh l i)).take fo++Ql x++((cx.cd E).cs (ixd (cx.cd E).inh l i)).drop (fo+n))) fun v=>
     Let (l.set i.toNat v) fun l'=>jfx L id (.arr E l') fun L'=>k L' gs ⟨o.looksAt ops,[id],[],[id],[]⟩
   | _=>none)
theorem WZ {β ρ:Type} {v:β} {k:β->Option ρ} {r:ρ} (h:Let v k=some r):k v=some r:=h
theorem wb {α:Type} {c:Prop} [Decidable c] {k:Option α} {r:α} (h:Chk c k=some r):c/\k=some r:=by
 unfold Chk at h;split at h
 ·exact ⟨‹_›,h⟩
 ·cases h
theorem jbO {E:tb.Ix}:∀ {l:List (tb.T E)} {i:Nat} {v:tb.T E},i<l.length->(∀ x,(tb.el E x).cells.length=tb.sz E)->elC tb E (l.set i v)=(elC tb E l).take (i*tb.sz E)++(tb.el E v).cells++(elC tb E l).drop ((i+1)*tb.sz E)
 | x::l,0,v,_,hc=>by
   simp only [elC,List.set_cons_zero,List.map_cons,List.flatMap_cons,Nat.zero_mul,List.take_zero,List.nil_append,Nat.zero_add,Nat.one_mul]
   rw [<- hc x,List.drop_left]
 | x::l,i+1,v,h,hc=>by
   have ih:=jbO (l:=l) (i:=i) (v:=v) (by simpa using h) hc
   have e1:∀ z,elC tb E (x::z)=(tb.el E x).cells++elC tb E z:=fun z=>rfl
   have h1:(i+1)*tb.sz E=(tb.el E x).cells.length+i*tb.sz E:=by rw [hc,Nat.add_mul];omega
   have h2:(i+1+1)*tb.sz E=(tb.el E x).cells.length+(i+1)*tb.sz E:=by rw [hc,Nat.add_mul (i+1)];omega
   rw [List.set_cons_succ,e1,e1,ih,h2,h1,List.take_length_add_append,List.drop_length_add_append]
   simp [List.append_assoc]
theorem ja2 {N ops} {L:SLS tb} {gs o t y z} {k:SLS tb->List Nat->KL->Option ρ} {r} (hi:RI gs L.e) (hg:o.guard=none) (ho:o.op=.store t y z) (h:ja3 cx ops L gs o t y z k=some r):LOk P N ops o L k r:=by
 unfold ja3 at h
 split at h
 ·cases h
 ·rename_i hd
  obtain ⟨p,hp,h⟩:=jg h
  obtain ⟨x,hx,h⟩:=jg h
  obtain ⟨n,hn,h⟩:=jg h
  obtain ⟨hs,h⟩:=jK h
  obtain ⟨hlen,h⟩:=jK h
  have hlen:=Nat.eq_of_beq_eq_true hlen
  obtain ⟨g1,g2⟩:=uI hs
  have hy:=jY (Gu.nil hi.inv) hp
  have hz:=jY (Gu.nil hi.inv) hx
  have hl2:x.av.cells.length=n:=by rw [<- g2,JX,hlen]
  split at h
  ·obtain ⟨l,hl,h⟩:=jg h
   obtain ⟨hf,h⟩:=jK h
   obtain ⟨hh,h⟩:=wP h
   have hl:=zA hl
   have key:=LEx.store (l:=avL l) (ops:=ops) (N:=N) hg ho hd hn hy hz g1 hl2 (by rw [JX];exact Nat.le_of_ble_eq_true hf)
   refine ⟨_,_,_,_,h,⟨Yu,by simp,by simp,by simp,rfl⟩,key,qo.1,?_,by simp,Nat.le_refl _,rfl,rfl,rfl,?_,⟨[],rfl⟩,⟨[_],rfl⟩,hi⟩
   ·intro q hq;simp at hq;subst hq;exact hl
   ·show avH L.gn _=_
    rw [hh]
    show (_,uC.cells (avL (l.take _++Ql x++l.drop _)))::_=_
    rw [JY,JY,QY,QZ,g2];rfl
  ·rename_i id E i fo _ _ _ _
   obtain ⟨l,hl,h⟩:=jg h
   obtain ⟨hf,h⟩:=jK h
   have hf:=Nat.le_of_ble_eq_true hf
   obtain ⟨hc,h⟩:=wb h
   obtain ⟨v,hv,h⟩:=jg h
   obtain ⟨hh,h⟩:=wP (WZ h)
   have hl:=YF hl
   have hlt:i.toNat<l.length:=by omega
   have hm:=Nat.mul_le_mul_right (tb.sz E) (show i.toNat+1<=l.length from hlt)
   rw [Nat.add_mul,Nat.one_mul] at hm
   have key:=LEx.store (l:=elC tb E l) (ops:=ops) (N:=N) hg ho hd hn hy hz g1 hl2 (by rw [zd cx];omega)
   have hsub:=((cx.ok E).ofC _ _ hv).1
   rw [JY,JY,QY,QZ,g2,<- jeG cx hc] at hsub
   have key:=key.wsub (Z':=elC tb E (l.set i.toNat v)) (by
    rw [jbO hlt (cx.ok E).len]
    have e1:(elC tb E l).take (i.toNat*tb.sz E+fo)=(elC tb E l).take (i.toNat*tb.sz E)++(((elC tb E l).drop (i.toNat*tb.sz E)).take (tb.sz E)).take fo:=by
     rw [List.take_take,Nat.min_eq_left (by omega),List.take_add]
    have e2:(elC tb E l).drop (i.toNat*tb.sz E+fo+n)=(((elC tb E l).drop (i.toNat*tb.sz E)).take (tb.sz E)).drop (fo+n)++(elC tb E l).drop ((i.toNat+1)*tb.sz E):=by
     rw [List.drop_take,List.drop_drop,Nat.add_mul,Nat.one_mul]
     have:=List.take_append_drop (tb.sz E - (fo+n)) ((elC tb E l).drop (i.toNat*tb.sz E+(fo+n)))
     rw [List.drop_drop] at this
     rw [show i.toNat*tb.sz E+tb.sz E=i.toNat*tb.sz E+(fo+n)+(tb.sz E - (fo+n)) by omega,this,Nat.add_assoc]
    rw [e1,e2]
    have:=((QG.refl ((elC tb E l).take (i.toNat*tb.sz E))).append hsub).append (QG.refl ((elC tb E l).drop ((i.toNat+1)*tb.sz E)))
    simpa only [List.append_assoc] using this)
   refine ⟨_,_,_,_,h,⟨Yu,by simp,by simp,by simp,rfl⟩,key,qo.1,?_,by simp,Nat.le_refl _,rfl,rfl,rfl,?_,⟨[],rfl⟩,⟨[_],rfl⟩,hi⟩
   ·intro q hq;simp at hq;subst hq;exact hl
   ·show avH L.gn _=_
    rw [hh];rfl
  ·cases h
end
end
end Go.Rx
end
