/-
  part 8 of the proof; no condition.
-/
import Derived.Test.YtglndmmlghpdpaaGreatDoorPG
import Derived.ChangeReads
namespace SS
open Go
section
variable {R A B:Type}
theorem Fa (a:A) (K:A->Option R):oK (some a) K=K a:=rfl
theorem XJ (a:A) (b:B) (K:A->B->Option R):pK (some (a,b)) K=K a b:=rfl
theorem Wn (b:Bool) (K:Bool->Option R):boK (.bool b) K=K b:=rfl
theorem Qk (n:Int) (K:Int->Option R):AB (.int .i64 n) K=K n:=rfl
theorem Xh (n:Int) (K:Int->Option R):u8K (.int .u8 n) K=K n:=rfl
theorem Xg (n:Int) (K:Int->Option R):Hy (.int .u64 n) K=K n:=rfl
theorem WY (k:IntKind) (n:Int) (K:Int->Option R):aiK (.int k n) K=K n:=rfl
theorem XR (s:List UInt8) (K:List UInt8->Option R):stK (.str s) K=K s:=rfl
theorem WW (s:List V) (K:List V->Option R):agK (.agg s) K=K s:=rfl
theorem Xf (vs:List V) (i:Nat) (K:V->Option R):tuK (.tup vs) i K=oK vs[i]? K:=by
 show oK (Dn vs i) K=_;rw [Dp]
theorem Ee (X:Option R):gd true X=X:=rfl
theorem BA {v:V} (h:v.one=true) (X:Option R):onK v X=X:=by
 show gd v.isOne X=X;rw [V.zAh,h];rfl
theorem Qn (c:Bool) (X Y:Res):AF c X Y=if c=true then X else Y:=by cases c<;>rfl
theorem xP (c:Bool) (X Y:Option R):ifB c X Y=if c=true then X else Y:=by cases c<;>rfl
theorem xY (b:Bool):ntB b=!b:=Iq b
theorem XB (l:List UInt8) (K:Int->R):lnS l K=K (l.length:Int):=by unfold lnS;rw [Ce,CB];rfl
theorem Qq (n:Nat) (K:Nat->Option R):Bo (n:Int) K=K n:=rfl
theorem W9 (K:Int->Option R):lnK .nilS K=K 0:=by unfold lnK;show fN 0 _=_;rw [Ce];rfl
theorem xV (K:Int->Option R):lnK .emp K=K 0:=by unfold lnK;show fN 0 _=_;rw [Ce];rfl
theorem Wz (xs:List V) (f:Bool) (K:Int->Option R):lnK (.lst xs f) K=K (xs.length:Int):=by show (fN (BN xs) λm=>K (.ofNat m))=_;rw [Ce,CB];rfl
theorem XA (b v o l:Nat) (c:Option Nat) (K:Int->Option R):lnK (.ref b v o l c) K=K (l:Int):=by show (fN l λm=>K (.ofNat m))=_;rw [Ce];rfl
theorem xO (us:List V) (σ:St):Ah (some (.ret,us,σ))=some (AL us,σ):=rfl
theorem J2 {x:Int} (h1: -9223372036854775808<=x) (h2:x<=9223372036854775807):IntKind.i64.wrap x=x:=by
 unfold IntKind.wrap;simp [IntKind.signed,IntKind.bits];omega
theorem xJ {x:Int} (h1:0<=x) (h2:x<=255):IntKind.u8.wrap x=x:=by
 unfold IntKind.wrap;simp [IntKind.signed,IntKind.bits];omega
theorem NP {x y:Int} (K:Int->R) (h1: -9223372036854775808<=x+y) (h2:x+y<=9223372036854775807):Ab 9223372036854775807 .i64 x y K=K (x+y):=by
 rw [Nr (mx:=9223372036854775807) (k:=.i64) rfl,J2 h1 h2]
theorem Qt {x y:Int} (K:Int->R) (h1: -9223372036854775808<=x - y) (h2:x - y<=9223372036854775807):CQ 9223372036854775807 .i64 x y K=K (x - y):=by
 rw [M8 (mx:=9223372036854775807) (k:=.i64) rfl,J2 h1 h2]
theorem Mh {mx:Nat} {k:IntKind} (hm:mx=EM k) {x y:Int} (hy:y≠0) (K:Int->Option R):CZ mx k x y K=K (k.wrap (x.tdiv y)):=by
 unfold CZ;cases x with
 | ofNat a =>
  cases y with
  | ofNat b =>
   cases b with
   | zero=>exact absurd rfl hy
   | succ p =>
    show Bool.rec (motive:=λ_=>Option R) (wrI k ((Int.ofNat a).tdiv (Int.ofNat (p+1))) K) (fN (Nat.div a (Nat.succ p)) λm=>K (.ofNat m)) (Nat.ble a mx)=_;cases hb:Nat.ble a mx with
    | false=>show iK _ K=_;rw [C4]
    | true =>
     show fN _ _=_;rw [Ce];have h1:=Nat.le_of_ble_eq_true hb;have e:(Int.ofNat a).tdiv (Int.ofNat (p+1))=((a / (p+1):Nat):Int):=rfl;rw [e,LF (m:=a / (p+1)) (by subst hm;exact Nat.le_trans (Nat.div_le_self _ _) h1)];rfl
  | negSucc b=>show iK _ K=_;rw [C4]
 | negSucc a =>
  show bK (Int.beq' y 0) none (wrI k ((Int.negSucc a).tdiv y) K)=_;have:Int.beq' y 0=false:=by
   cases hb:Int.beq' y 0 with
   | false=>rfl
   | true=>exact absurd (by simpa using hb) hy
  rw [this];show iK _ K=_;rw [C4]
variable {σ:St} {E:Env}
theorem H7 (o:AO) (K:Nat->St->R):σ.newK o K=K σ.n (σ.new o):=St.zAi σ o K
theorem xL {b ver off:Nat} {cs:List V} {ty:TypeId} {v:V} (h:σ.get b=some (.blk cs ty ver false)) (hx:off<cs.length) (K:St->Option R):bs1 σ b ver off v K=K (σ.put b (.blk (cs.set off v) ty ver false)):=by
 unfold bs1;rw [St.getF_eq,h];show gd (Nat.beq ver ver) (gd (Nat.ble (Nat.succ off) (BN cs)) (σ.putK b (.blk (K0 cs off v) ty ver false) K))=_;rw [Nat.beq_refl,CB,QC,St.zAq];have:Nat.ble (Nat.succ off) cs.length=true:=Nat.ble_eq_true_of_le hx;rw [this];rfl
theorem xM {x:V} {off:Nat} {v:V} (hx:x.cells[off]? = some v) (hv:v.one=true) (K:V->Option R):el1 x off K=K v:=by
 unfold el1;rw [V.zAb,Dp,hx];show gd v.isOne (K v)=_;rw [V.zAh,hv];rfl
theorem Ww {sz off n:Nat} {xs:List V} {f:Bool} {x v:V} (h:xs[n]? = some x) (hs:x.cells.length=sz) (hx:x.cells[off]? = some v) (hv:v.one=true) (K:V->Option R):AZ sz (.lst xs f) (n:Int) off σ K=K v:=by
 show oK (Dn xs n) (λe=>gd (Nat.beq (BN e.cellsF) sz) (el1 e off K))=_;rw [Dp,h];show gd (Nat.beq (BN x.cellsF) sz) (el1 x off K)=_;rw [V.zAb,CB,hs,Nat.beq_refl];exact xM hx hv K
theorem xS {sz off m n:Nat} {xs:List V} {f:Bool} {x:V} (h:xs[n]? = some x) (hs:x.cells.length=sz) (hx:((x.cells.drop off).take m).length=m) (K:V->Option R):Bw sz m (.lst xs f) (n:Int) off σ K=K (.agg ((x.cells.drop off).take m)):=by
 show oK (Dn xs n) (λe=>gd (Nat.beq (BN e.cellsF) sz) (elN e m off K))=_;rw [Dp,h];show gd (Nat.beq (BN x.cellsF) sz) (gd (Nat.beq (BN (Cc (EG x.cellsF off) m)) m) (K (.agg (Cc (EG x.cellsF off) m))))=_;rw [V.zAb,CB,hs,Nat.beq_refl,CB,Et,FL,hx,Nat.beq_refl];rfl
theorem XP {sz off n b ver o len:Nat} {cap:Option Nat} {cs:List V} {ty:TypeId} {v:V} (hn:n<len) (h:σ.get b=some (.blk cs ty ver false)) (hx:o+(n*sz+off)<cs.length) (K:St->Option R):K5 sz (.ref b ver o len cap) (n:Int) off v σ K=K (σ.put b (.blk (cs.set (o+(n*sz+off)) v) ty ver false)):=by
 show gd (Nat.ble (Nat.succ n) len) (bs1 σ b ver (Nat.add o (Nat.add (Nat.mul n sz) off)) v K)=_;have:Nat.ble (Nat.succ n) len=true:=Nat.ble_eq_true_of_le hn;rw [this];exact xL h hx K
end
theorem EQ (n:Nat):Int.ofNat (no_index (OfNat.ofNat n))=(OfNat.ofNat n:Int):=rfl
section
variable {R:Type} {σ:St}
theorem Wg (elem sz n:Nat) (new:List V) (hn:n<=4294967296) (K:V->St->Option R):BQ elem sz n new .nilS σ K=K (.ref σ.n 0 0 n none) (σ.new (.blk new elem 0 false)):=by
 show (fN (Nat.add 0 n) λneed=>gd (Nat.ble need 4294967296) (σ.newK (.blk new elem 0 false) λb σ'=>K (.ref b 0 0 need none) σ'))=_;rw [Ce,show Nat.add 0 n=n from Nat.zero_add n,Nat.ble_eq_true_of_le hn,Ee,St.zAi]
theorem Wh {elem sz n b ver l:Nat} {new cs:List V} (h:σ.get b=some (.blk cs elem ver false)) (hl:cs.length=l*sz) (hn:0<n*sz) (hb:l+n<=4294967296) (K:V->St->Option R) :
 BQ elem sz n new (.ref b ver 0 l none) σ K=K (.ref b (ver+1) 0 (l+n) none) (σ.put b (.blk (cs++new) elem (ver+1) false)):=by
 show (fN (Nat.add l n) λneed=>gd (Nat.ble need 4294967296) (oK (σ.getF b) λo=>AO.rec (λcs ty ver' fz=>Bool.rec (gd (Nat.beq ver ver')
       (gd (Nat.beq ty elem) (bK (Nat.ble (Nat.add 0 (Nat.mul need sz)) (BN cs))
         (oK (Ca cs (Nat.add 0 (Nat.mul l sz)) new) λcs'=>σ.putK b (.blk cs' ty ver false) λσ'=>K (.ref b ver 0 need none) σ')
         (gd (Nat.ble (Nat.add 0 (Nat.mul l sz)) (BN cs)) (fN (Nat.succ ver) λver2=>σ.putK b (.blk (GU (Kl cs 0 (Nat.mul l sz)) new) ty ver2 false) λσ'=>K (.ref b ver2 0 need none) σ'))))) none fz) (λ_ _=>none) o))=_
 rw [Ce,show Nat.add l n=l+n from rfl,Nat.ble_eq_true_of_le hb,Ee,St.getF_eq,h,Fa];simp only;rw [Nat.beq_refl,Nat.beq_refl,Ee,Ee,CB,hl];have e1:Nat.ble (Nat.add 0 (Nat.mul (l+n) sz)) (l*sz)=false:=by
  cases hb:Nat.ble (Nat.add 0 (Nat.mul (l+n) sz)) (l*sz) with
  | false=>rfl
  | true =>
   have:=Nat.le_of_ble_eq_true hb;have e:Nat.add 0 (Nat.mul (l+n) sz)=(l+n)*sz:=Nat.zero_add _;rw [e,Nat.add_mul] at this;omega
 have e2:Nat.ble (Nat.add 0 (Nat.mul l sz)) (l*sz)=true:=Nat.ble_eq_true_of_le (by rw [show Nat.add 0 (Nat.mul l sz)=l*sz from Nat.zero_add _];exact Nat.le_refl _);rw [e1,FK,if_neg (by simp),e2,Ee,Ce,St.zAq,IM];have e3:Kl cs 0 (Nat.mul l sz)=cs:=by
  show bK (Nat.beq (BN cs) (Nat.mul l sz)) cs (Cc cs (Nat.mul l sz))=cs;rw [CB,hl,show Nat.mul l sz=l*sz from rfl,Nat.beq_refl];rfl
 rw [e3]
end
theorem J4 (vs:List V) (σ:St) (K:List V->St->Res):Bv (some (.norm,vs,σ)) K=K vs σ:=rfl
theorem Wj (vs:List V) (σ:St) (K:List V->St->Res):Bv (some (.ret,vs,σ)) K=some (.ret,vs,σ):=rfl
theorem Wi (i:Nat) (vs:List V) (σ:St) (K:List V->St->Res):Bv (some (.exit i,vs,σ)) K=some (.exit i,vs,σ):=rfl
theorem Wk (i:Nat) (vs:List V) (σ:St) (K:List V->St->Res):Aw i (some (.norm,vs,σ)) K=K vs σ:=rfl
theorem Wm (i:Nat) (vs:List V) (σ:St) (K:List V->St->Res):Aw i (some (.ret,vs,σ)) K=some (.ret,vs,σ):=rfl
theorem Wl (i:Nat) (vs:List V) (σ:St) (K:List V->St->Res):Aw i (some (.exit i,vs,σ)) K=K vs σ:=by
 show Bool.rec (motive:=λ_=>Res) (some (.exit i,vs,σ)) (K vs σ) (Nat.beq i i)=_;rw [Nat.beq_refl]
theorem Eo (P:List V->St->Res) (k:Nat) (vs:List V) (σ:St):Ai P (k+1) vs σ=Bv (P vs σ) (Ai P k):=rfl
section
variable {R:Type}
theorem Xi (f:St->Option R) (σ:St):un0 f [] σ=f σ:=rfl
theorem Gn (f:V->St->Option R) (a:V) (σ:St):un1 f [a] σ=f a σ:=rfl
theorem H8 (f:V->V->St->Option R) (a b:V) (σ:St):un2 f [a,b] σ=f a b σ:=rfl
theorem NV (f:V->V->V->St->Option R) (a b c:V) (σ:St):un3 f [a,b,c] σ=f a b c σ:=rfl
theorem Xj (f:V->V->V->V->St->Option R) (a b c d:V) (σ:St):un4 f [a,b,c,d] σ=f a b c d σ:=rfl
theorem Xk (f:V->V->V->V->V->St->Option R) (a b c d e:V) (σ:St):un5 f [a,b,c,d,e] σ=f a b c d e σ:=rfl
theorem Xl (f:V->V->V->V->V->V->St->Option R) (a b c d e g:V) (σ:St):un6 f [a,b,c,d,e,g] σ=f a b c d e g σ:=rfl
theorem Xm (f:V->V->V->V->V->V->V->St->Option R) (a b c d e g h:V) (σ:St):un7 f [a,b,c,d,e,g,h] σ=f a b c d e g h σ:=rfl
theorem Xn (f:V->V->V->V->V->V->V->V->St->Option R) (a b c d e g h i:V) (σ:St):un8 f [a,b,c,d,e,g,h,i] σ=f a b c d e g h i σ:=rfl
end
section
variable {R:Type}
theorem Wf (σ:St) (X:Option (Bool×St)) (K:Bool->St->Option R):A7 true σ X K=pK X K:=rfl
theorem WZ (σ:St) (X:Option (Bool×St)) (K:Bool->St->Option R):A7 false σ X K=K false σ:=rfl
theorem XI (σ:St) (X:Option (Bool×St)) (K:Bool->St->Option R):orK true σ X K=K true σ:=rfl
theorem XG (σ:St) (X:Option (Bool×St)) (K:Bool->St->Option R):orK false σ X K=pK X K:=rfl
end
def Mm (P:Program):List Field->Nat->Nat->Bool
 | [],k,n=>Nat.beq k n
 | f :: r,k,n=>Nat.beq f.offset k&&Mm P r (k+P.cellsOf f.type) n
def IV (P:Program):Nat->TypeId->Bool
 | 0,_=>false
 | n+1,t=>match P.underlying t with
  | some .bool | some (.int _) | some .string=>true
  | some (.slice e)=>IV P n e&&Nat.blt 0 (P.cellsOf e)&&(match P.underlying e with | some d=>Be d||Nat.beq (P.cellsOf e) 1 | none=>false)
  | some (.struct fs)=>(fs.toList.all λf=>IV P n f.type)&&Mm P fs.toList 0 (P.cellsOf t)
  | _=>false
def Db (P:Program) (e:TypeId) (cs:List V):V :=
 match P.underlying e with
 | some d=>if Be d then .agg cs else cs.headD .opq
 | none=>.opq
def DW (P:Program):Nat->TypeId->List V->Prop
 | 0,_,_=>False
 | n+1,t,vs=>match P.underlying t with
  | some .bool=>∃ b,vs=[.bool b]
  | some (.int k)=>∃ z,vs=[.int k z]/\k.min<=z/\z<=k.max
  | some .string=>∃ s,vs=[.str s]/\s.length<=9223372036854775807
  | some (.slice e)=>vs=[.nilS]\/∃ cells:List (List V),vs=[.lst (cells.map (Db P e)) false]/\cells.length<=9223372036854775807/\∀ c∈cells,DW P n e c
  | some (.struct fs)=>∃ parts:List (List V),vs=parts.flatten/\parts.length=fs.size/\∀ (i:Nat) (f:Field) (p:List V),fs[i]? = some f->parts[i]? = some p->DW P n f.type p
  | _=>False
def C6 (w:World):Mem:=λx=>w.heap[x]?
theorem tX (P:Program) (w:World) (σ:St):SR P (λ_=>none) (C6 w) σ w :=
 ⟨λ_ _ h=>(by cases h),λ_ _ h=>(by cases h),λ_ _ _ _ h=>(by cases h),λ_ _ h=>h,λ_ _ h=>(by cases h)⟩
section
variable {H:Type} {enc:TypeId×Value->H} {P:Program} {w w':World}
theorem Le {base:Nat} {a:Addr} {n:Nat} {l:List Value} (h:w.cells? base a n=some l):l.length=n/\∀ i,i<n->w.cell? (a.add i)=l[i]? := by
 unfold World.cells? at h;split at h
 ·have hl:l.length=n:=by simpa using mapM_some_length h
  exact ⟨hl,λi hi=>mapM_some_get h i i (by simp [hi])⟩
 ·cases h
theorem Ru {a:Addr} {v:Value} (h:w.cell? a=some v): ∃ cs t fr,w.heap[a.block]? = some (.cells cs t fr)/\a.spot=none/\cs[a.off]? = some v:=by
 unfold World.cell? at h;split at h
 ·rename_i cs t fr hh;split at h
  ·cases h
  ·rename_i hs;refine ⟨cs,t,fr,hh,?_,h⟩;cases hsp:a.spot with
   | none=>rfl
   | some s=>rw [hsp] at hs;exact absurd rfl hs
 ·cases h
theorem LY (a:Addr) (n:Nat):(a.add n).block=a.block/\(a.add n).off=a.off+n:=by
 unfold Addr.add
 split
 ·rename_i h;subst h;exact ⟨rfl,rfl⟩
 ·exact ⟨rfl,rfl⟩
theorem r9 {base:Nat} {a:Addr} {n:Nat} {l:List Value} (h:w.cells? base a n=some l) {cs:Array Value} {t:TypeId} {fr:Nat×Nat} (hb:w.heap[a.block]? = some (.cells cs t fr)):((cs.toList.drop a.off).take n)=l:=by
 obtain ⟨hl,hg⟩:=Le h;apply List.ext_getElem?;intro i;by_cases hi:i<n
 ·have h1:=hg i hi;obtain ⟨v,hv⟩: ∃ v,l[i]? = some v:=⟨l[i],by simp [hl,hi]⟩
  rw [hv] at h1;obtain ⟨cs',t',fr',h2,_,h3⟩:=Ru h1;rw [(LY a i).1,hb] at h2;cases h2;rw [(LY a i).2] at h3;rw [hv,List.getElem?_take,if_pos hi,List.getElem?_drop];simpa using h3
 ·rw [List.getElem?_take,if_neg hi];exact (List.getElem?_eq_none (by omega)).symm
theorem OO {A:Type} {Q:Nat->A->Prop}: ∀ (n:Nat),(∀ i,i<n->∃ y,Q i y)->∃ L:List A,L.length=n/\∀ i y,L[i]? = some y->Q i y
 | 0,_=>⟨[],rfl,λi y h=>by simp at h⟩
 | n+1,h=>by
  obtain ⟨L,h1,h2⟩:=OO n (λi hi=>h i (by omega));obtain ⟨y,hy⟩:=h n (by omega);refine ⟨L++[y],by simp [h1],λi z hz=>?_⟩;rw [List.getElem?_append] at hz;split at hz
  ·exact h2 i z hz
  ·rename_i hi;have:i=n:=by
    have:i - L.length<1:=by
     rcases Nat.lt_or_ge (i - L.length) 1 with h | h
     ·exact h
     ·rw [List.getElem?_eq_none (by simpa using h)] at hz;cases hz
    omega
   subst this;rw [h1,Nat.sub_self] at hz;cases hz;exact hy
theorem wJ {n:Nat} {e:TypeId} {c:List V} {d:TypeDesc} (hd:P.underlying e=some d) (ha:Be d=false) (h:DW P n e c): ∃ v,c=[v]/\v.cells=[v]:=by
 cases n with
 | zero=>exact h.elim
 | succ n =>
  unfold DW at h;rw [hd] at h;cases d<;>simp only at h<;>first | exact h.elim | skip
  ·obtain ⟨b,rfl⟩:=h;exact ⟨_,rfl,rfl⟩
  ·obtain ⟨z,rfl,_⟩:=h;exact ⟨_,rfl,rfl⟩
  ·obtain ⟨z,rfl,_⟩:=h;exact ⟨_,rfl,rfl⟩
  ·rcases h with rfl | ⟨cells,rfl,_⟩
   ·exact ⟨_,rfl,rfl⟩
   ·exact ⟨_,rfl,rfl⟩
  ·cases ha
theorem Um {n:Nat} {e:TypeId} {c:List V} {d:TypeDesc} (hd:P.underlying e=some d) (h:DW P n e c):(Db P e c).cells=c:=by
 unfold Db;rw [hd];simp only;cases ha:Be d with
 | true=>simp [V.cells]
 | false =>
  obtain ⟨v,rfl,hv⟩:=wJ hd ha h;simpa using hv
theorem VH {ρ:Ren} {M:Mem} {e:TypeId} {n sz:Nat} {d:TypeDesc} (hd:P.underlying e=some d): ∀ (L:List (List V)) (row:List Value),(∀ (i:Nat) (c:List V),L[i]? = some c->DW P n e c/\c.length=sz/\VRL ρ M c ((row.drop (i*sz)).take sz))->Bz ρ M sz (L.map (Db P e)) row
 | [],row,_=>.nil sz row
 | c :: L,row,h=>by
  obtain ⟨h1,h2,h3⟩:=h 0 c rfl;have ih:=VH hd L (row.drop sz) (λi c' hc'=>by
   obtain ⟨a1,a2,a3⟩:=h (i+1) c' (by simpa using hc');refine ⟨a1,a2,?_⟩;rw [List.drop_drop];rw [Nat.add_mul,Nat.one_mul,Nat.add_comm] at a3;exact a3)
  have e0:row=(row.take sz)++row.drop sz:=(List.take_append_drop sz row).symm;rw [Nat.zero_mul,List.drop_zero] at h3;rw [e0];have hc:=Um hd h1;exact .cons sz (Db P e c) (L.map (Db P e)) _ _ (by rw [hc];exact h3) (by rw [hc];exact h2) ih
theorem TI {ρ:Ren} {M:Mem} {cs:List Value}: ∀ (fs:List Field) (parts:List (List V)) (k n:Nat),Mm P fs k n=true->cs.length=n->parts.length=fs.length->(∀ (i:Nat) (f:Field) (p:List V),fs[i]? = some f->parts[i]? = some p->VRL ρ M p ((cs.drop f.offset).take (P.cellsOf f.type)))->VRL ρ M parts.flatten (cs.drop k)
 | [],[],k,n,h,hl,_,_=>by
  have:=Nat.eq_of_beq_eq_true (show Nat.beq k n=true from h);rw [List.drop_eq_nil_of_le (by omega)];exact .nil
 | f :: fs,p :: parts,k,n,h,hl,hp,hv=>by
  simp only [Mm,Bool.and_eq_true] at h;have hk:=Nat.eq_of_beq_eq_true h.1;have h0:=hv 0 f p rfl rfl;have ih:=TI fs parts (k+P.cellsOf f.type) n h.2 hl (by simpa using hp) (λi f' p' hf hp'=>hv (i+1) f' p' (by simpa using hf) (by simpa using hp'));rw [hk] at h0;have e0:cs.drop k=((cs.drop k).take (P.cellsOf f.type))++cs.drop (k+P.cellsOf f.type):=by
   rw [<-List.drop_drop];exact (List.take_append_drop _ _).symm
  rw [List.flatten_cons,e0];exact h0.append ih
 | [],_ :: _,_,_,_,_,h,_=>by simp at h
 | _ :: _,[],_,_,_,_,h,_=>by simp at h
theorem WE {base:Nat} {sp:Nat->Bool} {held:Bool}: ∀ (n m:Nat) (t:TypeId) (cs:List Value) (x:DataW H×List MemPlace),IV P n t=true->DataW.trod enc P w base sp held m t cs=some x->∃ vs,DW P n t vs/\VRL (λ_=>none) (C6 w) vs cs:=by
 intro n
 induction n with
 | zero=>intro m t cs x h;cases h
 | succ n ih =>
  intro m t cs x hd h;cases m with
  | zero=>cases h
  | succ m =>
   unfold IV at hd;unfold DW;cases hu:P.underlying t with
   | none=>rw [hu] at hd;cases hd
   | some d =>
    rw [hu] at hd;rw [DataW.trod_step] at h;unfold DataW.trodStep at h;rw [hu] at h;cases d with
    | bool =>
     rcases cs with _ | ⟨c,_ | ⟨c',r⟩⟩
     ·simp at h
     ·cases c<;>simp at h
      exact ⟨_,⟨_,rfl⟩,.cons _ _ _ _ (.bool _) .nil⟩
     ·simp at h
    | int k =>
     rcases cs with _ | ⟨c,_ | ⟨c',r⟩⟩
     ·simp at h
     ·cases c<;>simp at h
      rename_i k' z;obtain ⟨⟨rfl,hw⟩,_⟩:=h;simp [Lit.wf] at hw;exact ⟨_,⟨_,rfl,hw.1,hw.2⟩,.cons _ _ _ _ (.int _ _) .nil⟩
     ·simp at h
    | string =>
     rcases cs with _ | ⟨c,_ | ⟨c',r⟩⟩
     ·simp at h
     ·cases c<;>simp at h
      rename_i s;refine ⟨[.str s.data.toList],⟨_,rfl,?_⟩,.cons _ _ _ _ ?_ .nil⟩
      ·have h1:s.size<=maxLen:=h.1;have e:maxLen=9223372036854775807:=rfl;rw [e] at h1;rw [Array.length_toList];exact h1
      ·have:s=⟨s.data.toList.toArray⟩:=by cases s;simp
       rw [this];exact .str _
     ·simp at h
    | slice e =>
     simp only [Bool.and_eq_true] at hd;obtain ⟨⟨hde,hsz⟩,hone⟩:=hd;have hsz:0<P.cellsOf e:=(Nat.blt_eq).mp hsz;obtain ⟨de,hde',hone⟩: ∃ de,P.underlying e=some de/\(Be de||Nat.beq (P.cellsOf e) 1)=true:=by
      cases hx:P.underlying e with
      | none=>rw [hx] at hone;cases hone
      | some de=>rw [hx] at hone;exact ⟨de,rfl,hone⟩
     rcases cs with _ | ⟨c,_ | ⟨c',r⟩⟩
     ·simp at h
     ·cases c<;>simp only [reduceCtorEq] at h
      rename_i a len cap;cases a with
      | none =>
       have:len=0/\cap=0:=by
        rcases len with _ | len<;>rcases cap with _ | cap<;>simp at h ⊢
       obtain ⟨rfl,rfl⟩:=this;exact ⟨[.nilS],.inl rfl,.cons _ _ _ _ .nilS .nil⟩
      | some a =>
       simp only at h;split at h
       ·rename_i hc;simp only [Option.map_eq_some_iff,Option.bind_eq_some_iff] at h;obtain ⟨elems,he,_⟩:=h;have hlen:elems.length=len:=by simpa using mapM_some_length he
        have one: ∀ i,i<len->∃ c:List V,DW P n e c/\∃ l,w.cells? base (a.add (i*P.cellsOf e)) (P.cellsOf e)=some l/\VRL (λ_=>none) (C6 w) c l:=by
         intro i hi;have h1:=mapM_some_get he i i (by simp [hi]);have: ∃ y,elems[i]? = some y:=⟨elems[i],by simp [hlen,hi]⟩
         obtain ⟨y,hy⟩:=this;rw [hy,Option.bind_eq_some_iff] at h1;obtain ⟨l,h2,h3⟩:=h1;obtain ⟨c,h4,h5⟩:=ih m e l y hde h3;exact ⟨c,h4,l,h2,h5⟩
        obtain ⟨L,hL,hQ⟩:=OO len one;refine ⟨[.lst (L.map (Db P e)) false],.inr ⟨L,rfl,?_,λc hc'=>?_⟩,.cons _ _ _ _ ?_ .nil⟩
        ·have:=hc.2.2;simp only [maxLen] at this;omega
        ·obtain ⟨i,hi⟩:=List.mem_iff_getElem?.1 hc';exact (hQ i c hi).1
        ·rcases L with _ | ⟨c0,L⟩
         ·simp only [List.length_nil] at hL;subst hL;exact .lst0 false a cap (λh=>by cases h)
         ·obtain ⟨_,l0,r0,_⟩:=hQ 0 c0 rfl;obtain ⟨hl0,g0⟩:=Le r0;obtain ⟨v0,hv0⟩: ∃ v,l0[0]? = some v:=⟨l0[0],by simp⟩
          have g:=g0 0 hsz;rw [hv0,Nat.zero_mul] at g;have ea:(a.add 0).add 0=a:=rfl;rw [ea] at g;obtain ⟨cells,tt,fr,hb,hspot,_⟩:=Ru g;have hrows:Bz (λ_=>none) (C6 w) (P.cellsOf e) ((c0 :: L).map (Db P e)) (cells.toList.drop a.off):=by
           refine VH (n:=n) hde' (c0 :: L) _ (λi c hi=>?_);obtain ⟨q1,l,q2,q3⟩:=hQ i c hi;have hb':w.heap[(a.add (i*P.cellsOf e)).block]? = some (.cells cells tt fr):=by rw [(LY a _).1];exact hb
           have hrow:=r9 q2 hb';rw [(LY a _).2,<-List.drop_drop] at hrow;rw [hrow];exact ⟨q1,by rw [q3.length];exact (Le q2).1,q3⟩
          have hpc:(Db P e c0).cells.length=P.cellsOf e:=by
           rw [Um hde' (hQ 0 c0 rfl).1];obtain ⟨_,l,q2,q3⟩:=hQ 0 c0 rfl;rw [q3.length];exact (Le q2).1
          have hl:len=(L.map (Db P e)).length+1:=by simp at hL ⊢;omega
          have hcap:=hc.2.1;have hea:a=⟨a.block,a.off,none⟩:=by cases a;simp at hspot;subst hspot;rfl
          rw [hea,hl,List.map_cons];exact .lst _ _ false a.block a.off cap cells tt fr hb (by rw [hpc];exact hrows) (by omega) (λh=>by cases h)
       ·cases h
     ·simp at h
    | struct fs =>
     simp only [Bool.and_eq_true,List.all_eq_true] at hd;simp only at h;split at h
     ·rename_i hc;simp only [Option.map_eq_some_iff] at h;obtain ⟨xs,hx,_⟩:=h;have hlen:xs.length=fs.toList.length:=mapM_some_length hx;have one: ∀ i,i<fs.toList.length->∃ c:List V,∀ f,fs[i]? = some f->DW P n f.type c/\VRL (λ_=>none) (C6 w) c ((cs.drop f.offset).take (P.cellsOf f.type)):=by
       intro i hi;have hf:fs.toList[i]? = some fs.toList[i]:=by simp
       have h1:=mapM_some_get hx i _ hf;obtain ⟨y,hy⟩: ∃ y,xs[i]? = some y:=⟨xs[i],by simp⟩
       rw [hy] at h1;obtain ⟨c,h4,h5⟩:=ih m _ _ y (hd.1 _ (List.getElem_mem hi)) h1;refine ⟨c,λf hf'=>?_⟩;have:fs.toList[i]=f:=by
        have e:fs.toList[i]? = some f:=by simpa using hf'
        rw [hf] at e;cases e;rfl
       rw [<-this];exact ⟨h4,h5⟩
      obtain ⟨L,hL,hQ⟩:=OO fs.toList.length one;refine ⟨L.flatten,⟨L,rfl,by simpa using hL,λi f p hf hp=>(hQ i p hp f hf).1⟩,?_⟩;have:=TI (P:=P) (cs:=cs) (M:=C6 w) (ρ:=λ_=>none) fs.toList L 0 (P.cellsOf t) hd.2 hc hL (λi f p hf hp=>(hQ i p hp f (by simpa using hf)).2);simpa using this
     ·cases h
    | _=>cases hd
theorem v8 {base:Nat} {sp:Nat->Bool} {held:Bool}: ∀ (n m:Nat) (t:TypeId) (cs:List Value) (x:DataW H×List MemPlace),IV P n t=true->DataW.trod enc P w base (λ_=>true) held m t cs=some x->(∀ p∈x.2,sp p.block=true)->DataW.trod enc P w base sp held m t cs=some x:=by
 intro n
 induction n with
 | zero=>intro m t cs x h;cases h
 | succ n ih =>
  intro m t cs x hd h hs;cases m with
  | zero=>cases h
  | succ m =>
   unfold IV at hd;cases hu:P.underlying t with
   | none=>rw [hu] at hd;cases hd
   | some d =>
    rw [hu] at hd;rw [DataW.trod_step] at h ⊢;unfold DataW.trodStep at h ⊢;rw [hu] at h ⊢;cases d with
    | bool =>
     rcases cs with _ | ⟨c,_ | ⟨c',r⟩⟩
     ·simp at h
     ·cases c<;>first | exact h | (simp at h;done)
     ·simp at h
    | int k =>
     rcases cs with _ | ⟨c,_ | ⟨c',r⟩⟩
     ·simp at h
     ·cases c<;>first | exact h | (simp at h;done)
     ·simp at h
    | string =>
     rcases cs with _ | ⟨c,_ | ⟨c',r⟩⟩
     ·simp at h
     ·cases c<;>first | exact h | (simp at h;done)
     ·simp at h
    | slice e =>
     simp only [Bool.and_eq_true] at hd;obtain ⟨⟨hde,hsz⟩,_⟩:=hd;have hsz:0<P.cellsOf e:=(Nat.blt_eq).mp hsz;rcases cs with _ | ⟨c,_ | ⟨c',r⟩⟩
     ·simp at h
     ·cases c<;>simp only [reduceCtorEq] at h ⊢
      rename_i a len cap;cases a with
      | none=>rcases len with _ | len<;>rcases cap with _ | cap<;>first | exact h | (simp at h;done)
      | some a =>
       simp only at h ⊢;split at h
       ·rename_i hc;rw [if_pos hc];simp only [Option.map_eq_some_iff,Option.bind_eq_some_iff] at h ⊢;obtain ⟨elems,he,rest,hrest,rfl⟩:=h;simp only [if_true] at hrest;have hlen:elems.length=len:=by simpa using mapM_some_length he
        have hrl:rest.length=cap - len:=by simpa using mapM_some_length hrest
        have one: ∀ (i:Nat) (y:DataW H×List MemPlace),y∈elems++rest->(w.cells? base (a.add (i*P.cellsOf e)) (P.cellsOf e)).bind (DataW.trod enc P w base (λ_=>true) held m e)=some y->(w.cells? base (a.add (i*P.cellsOf e)) (P.cellsOf e)).bind (DataW.trod enc P w base sp held m e)=some y:=by
         intro i y hy hv;simp only [Option.bind_eq_some_iff] at hv ⊢;obtain ⟨cs',hc',hy'⟩:=hv;exact ⟨cs',hc',ih m e cs' y hde hy' (λp hp=>hs p (by simp only [List.mem_append,List.mem_flatMap];exact .inr ⟨y,by simpa using hy,hp⟩))⟩
        refine ⟨elems,mapM_carry he (λi y _ hy=>one i y (by simp [hy])),rest,?_,rfl⟩;by_cases hz:cap - len=0
        ·rw [hz] at hrl hrest ⊢;have:rest=[]:=List.eq_nil_of_length_eq_zero hrl;subst this
         split<;>rfl
        ·have hsp:sp a.block=true:=by
          refine hs (.cell a.block (a.off+0)) ?_;simp only [List.mem_append];left;refine MemPlace.mem_row.2 ⟨0,?_,rfl⟩;have:0<(elems.length+rest.length):=by omega
          exact Nat.mul_pos this hsz
         rw [if_pos hsp];exact mapM_carry hrest (λj y _ hy=>one (len+j) y (by simp [hy]))
       ·cases h
     ·simp at h
    | struct fs =>
     simp only [Bool.and_eq_true,List.all_eq_true] at hd;simp only at h ⊢;split at h
     ·rename_i hc;rw [if_pos hc];simp only [Option.map_eq_some_iff] at h ⊢;obtain ⟨xs,hx,rfl⟩:=h;exact ⟨xs,mapM_carry hx (λf y hf hy hv=>ih m _ _ y (hd.1 f hf) hv (λp hp=>hs p (List.mem_flatMap.2 ⟨y,hy,hp⟩))),rfl⟩
     ·cases h
    | _=>cases hd
theorem V8 {sp:Nat->Bool} (hh: ∀ i,i<w.heap.size->w'.heap[i]? = w.heap[i]?) {n:Nat}: ∀ {ts:List TypeId} {vs:List Value} {ds:List (DataW H)} {ps:List MemPlace},(ts.all λt=>IV P n t)=true->DataW.TrodAll enc P w 0 (λ_=>true) true ts vs ds ps->(∀ p∈ps,p.block<w.heap.size)->(∀ p∈ps,sp p.block=true)->DataW.TrodAll enc P w' 0 sp true ts vs ds ps
 | [],[],[],ps,_,h,_,_=>h
 | t :: ts,v :: vs,d :: ds,ps,ht,h,hlt,hsp=>by
  simp only [List.all_cons,Bool.and_eq_true] at ht;obtain ⟨p,q,⟨fuel,h1⟩,h2,rfl⟩:=h;refine ⟨p,q,⟨fuel,?_⟩,V8 hh ht.2 h2 (λx hx=>hlt x (by simp [hx])) (λx hx=>hsp x (by simp [hx])),rfl⟩;refine v8 n fuel t _ _ ht.1 (DataW.trod_carry fuel t _ _ h1 (λx hx=>?_)) (λx hx=>hsp x (by simp only [List.mem_append];exact .inl hx));have hb:=hlt x (by simp only [List.mem_append];exact .inl hx);cases x with
  | cell b off =>
   show w'.cell? _=w.cell? _;unfold World.cell?;rw [hh b hb]
  | map b=>exact hh b hb
 | [],_ :: _,_,_,_,h,_,_=>h.elim
 | [],[],_ :: _,_,_,h,_,_=>h.elim
 | _ :: _,[],_,_,_,h,_,_=>by cases ‹List (DataW H)›<;>exact h.elim
 | _ :: _,_ :: _,[],_,_,h,_,_=>h.elim
end
end SS
