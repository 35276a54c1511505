/-
  part 8 of the proof; no condition.
-/
import Derived.Test.YtglndmmlghpdpaaGreatDoorPG
import Derived.ChangeReads
namespace SS
open Go
section
variable {R A B:Type}
theorem EL (a:A) (K:A→Option R):oK (some a) K=K a:=rfl
theorem LM (a:A) (b:B) (K:A→B→Option R):pK (some (a,b)) K=K a b:=rfl
theorem LJ (b:Bool) (K:Bool→Option R):boK (.bool b) K=K b:=rfl
theorem Qq (n:Int) (K:Int→Option R):AB (.int .i64 n) K=K n:=rfl
theorem Xj (n:Int) (K:Int→Option R):u8K (.int .u8 n) K=K n:=rfl
theorem Xi (n:Int) (K:Int→Option R):H6 (.int .u64 n) K=K n:=rfl
theorem Wg (k:IntKind) (n:Int) (K:Int→Option R):aiK (.int k n) K=K n:=rfl
theorem XV (s:List UInt8) (K:List UInt8→Option R):stK (.str s) K=K s:=rfl
theorem We (s:List V) (K:List V→Option R):agK (.agg s) K=K s:=rfl
theorem Qz (vs:List V) (i:Nat) (K:V→Option R):tuK (.tup vs) i K=oK vs[i]? K:=by
 show oK (DW vs i) K=_;rw [DX]
theorem Eh (X:Option R):gd true X=X:=rfl
theorem BB {v:V} (h:v.one=true) (X:Option R):onK v X=X:=by
 show gd v.isOne X=X;rw [V.zAH,h];rfl
theorem J8 (c:Bool) (X Y:Res):AF c X Y=if c=true then X else Y:=by cases c<;>rfl
theorem wQ (c:Bool) (X Y:Option R):ifB c X Y=if c=true then X else Y:=by cases c<;>rfl
theorem wZ (b:Bool):ntB b=!b:=Ip b
theorem XE (l:List UInt8) (K:Int→R):lnS l K=K (l.length:Int):=by unfold lnS;rw [Cc,Bv];rfl
theorem XI (n:Nat) (K:Nat→Option R):Bt (n:Int) K=K n:=rfl
theorem XD (K:Int→Option R):lnK .nilS K=K 0:=by unfold lnK;show fN 0 _=_;rw [Cc];rfl
theorem wW (K:Int→Option R):lnK .emp K=K 0:=by unfold lnK;show fN 0 _=_;rw [Cc];rfl
theorem XC (xs:List V) (f:Bool) (K:Int→Option R):lnK (.lst xs f) K=K (xs.length:Int):=by show (fN (BN xs) fun m=>K (.ofNat m))=_;rw [Cc,Bv];rfl
theorem Qv (b v o l:Nat) (c:Option Nat) (K:Int→Option R):lnK (.ref b v o l c) K=K (l:Int):=by show (fN l fun m=>K (.ofNat m))=_;rw [Cc];rfl
theorem wP (us:List V) (σ:St):Ag (some (.ret,us,σ))=some (AL us,σ):=rfl
theorem J4 {x:Int} (h1: -9223372036854775808≤x) (h2:x≤9223372036854775807):IntKind.i64.wrap x=x:=by
 unfold IntKind.wrap
 simp [IntKind.signed,IntKind.bits]
 omega
theorem wJ {x:Int} (h1:0≤x) (h2:x≤255):IntKind.u8.wrap x=x:=by
 unfold IntKind.wrap
 simp [IntKind.signed,IntKind.bits]
 omega
theorem NK {x y:Int} (K:Int→R) (h1: -9223372036854775808≤x+y) (h2:x+y≤9223372036854775807):Aa 9223372036854775807 .i64 x y K=K (x+y):=by
 rw [Nk (mx:=9223372036854775807) (k:=.i64) rfl,J4 h1 h2]
theorem Qy {x y:Int} (K:Int→R) (h1: -9223372036854775808≤x - y) (h2:x - y≤9223372036854775807):CO 9223372036854775807 .i64 x y K=K (x - y):=by
 rw [Mv (mx:=9223372036854775807) (k:=.i64) rfl,J4 h1 h2]
theorem Md {mx:Nat} {k:IntKind} (hm:mx=EO k) {x y:Int} (hy:y≠0) (K:Int→Option R):Cj mx k x y K=K (k.wrap (x.tdiv y)):=by
 unfold Cj
 cases x with
 | ofNat a =>
  cases y with
  | ofNat b =>
   cases b with
   | zero=>exact absurd rfl hy
   | succ p =>
    show Bool.rec (motive:=fun _=>Option R) (wrI k ((Int.ofNat a).tdiv (Int.ofNat (p+1))) K) (fN (Nat.div a (Nat.succ p)) fun m=>K (.ofNat m)) (Nat.ble a mx)=_
    cases hb:Nat.ble a mx with
    | false=>show iK _ K=_;rw [C4]
    | true =>
     show fN _ _=_
     rw [Cc]
     have h1:=Nat.le_of_ble_eq_true hb
     have e:(Int.ofNat a).tdiv (Int.ofNat (p+1))=((a / (p+1):Nat):Int):=rfl
     rw [e,LG (m:=a / (p+1)) (by subst hm;exact Nat.le_trans (Nat.div_le_self _ _) h1)]
     rfl
  | negSucc b=>show iK _ K=_;rw [C4]
 | negSucc a =>
  show bK (Int.beq' y 0) none (wrI k ((Int.negSucc a).tdiv y) K)=_
  have:Int.beq' y 0=false:=by
   cases hb:Int.beq' y 0 with
   | false=>rfl
   | true=>exact absurd (by simpa using hb) hy
  rw [this]
  show iK _ K=_;rw [C4]
variable {σ:St} {E:Env}
theorem Gr (o:AO) (K:Nat→St→R):σ.newK o K=K σ.n (σ.new o):=St.zAI σ o K
theorem wL {b ver off:Nat} {cs:List V} {ty:TypeId} {fz:Bool} {v:V} (h:σ.get b=some (.blk cs ty ver fz)) (hx:cs[off]? = some v) (hv:v.one=true) (K:V→Option R):bk1 σ b ver off K=K v:=by
 unfold bk1
 rw [St.getF_eq,h]
 show gd (Nat.beq ver ver) (oK (DW cs off) fun v=>gd v.isOne (K v))=_
 rw [Nat.beq_refl,DX,hx]
 show gd v.isOne (K v)=_
 rw [V.zAH,hv];rfl
theorem wM {b ver off:Nat} {cs:List V} {ty:TypeId} {v:V} (h:σ.get b=some (.blk cs ty ver false)) (hx:off<cs.length) (K:St→Option R):bs1 σ b ver off v K=K (σ.put b (.blk (cs.set off v) ty ver false)):=by
 unfold bs1
 rw [St.getF_eq,h]
 show gd (Nat.beq ver ver) (gd (Nat.ble (Nat.succ off) (BN cs)) (σ.putK b (.blk (K7 cs off v) ty ver false) K))=_
 rw [Nat.beq_refl,Bv,QE,St.zAQ]
 have:Nat.ble (Nat.succ off) cs.length=true:=Nat.ble_eq_true_of_le hx
 rw [this];rfl
theorem wN {x:V} {off:Nat} {v:V} (hx:x.cells[off]? = some v) (hv:v.one=true) (K:V→Option R):el1 x off K=K v:=by
 unfold el1
 rw [V.zAB,DX,hx]
 show gd v.isOne (K v)=_
 rw [V.zAH,hv];rfl
theorem W9 {sz off n:Nat} {xs:List V} {f:Bool} {x v:V} (h:xs[n]? = some x) (hs:x.cells.length=sz) (hx:x.cells[off]? = some v) (hv:v.one=true) (K:V→Option R):Ab sz (.lst xs f) (n:Int) off σ K=K v:=by
 show oK (DW xs n) (fun e=>gd (Nat.beq (BN e.cellsF) sz) (el1 e off K))=_
 rw [DX,h]
 show gd (Nat.beq (BN x.cellsF) sz) (el1 x off K)=_
 rw [V.zAB,Bv,hs,Nat.beq_refl]
 exact wN hx hv K
theorem wS {sz off n b ver o len:Nat} {cap:Option Nat} {cs:List V} {ty:TypeId} {fz:Bool} {v:V} (hn:n<len) (h:σ.get b=some (.blk cs ty ver fz)) (hx:cs[o+(n*sz+off)]? = some v) (hv:v.one=true) (K:V→Option R):Ab sz (.ref b ver o len cap) (n:Int) off σ K=K v:=by
 show gd (Nat.ble (Nat.succ n) len) (bk1 σ b ver (Nat.add o (Nat.add (Nat.mul n sz) off)) K)=_
 have:Nat.ble (Nat.succ n) len=true:=Nat.ble_eq_true_of_le hn
 rw [this]
 exact wL h hx hv K
theorem wU {sz off m n:Nat} {xs:List V} {f:Bool} {x:V} (h:xs[n]? = some x) (hs:x.cells.length=sz) (hx:((x.cells.drop off).take m).length=m) (K:V→Option R):Bo sz m (.lst xs f) (n:Int) off σ K=K (.agg ((x.cells.drop off).take m)):=by
 show oK (DW xs n) (fun e=>gd (Nat.beq (BN e.cellsF) sz) (elN e m off K))=_
 rw [DX,h]
 show gd (Nat.beq (BN x.cellsF) sz) (gd (Nat.beq (BN (CZ (EF x.cellsF off) m)) m) (K (.agg (CZ (EF x.cellsF off) m))))=_
 rw [V.zAB,Bv,hs,Nat.beq_refl,Bv,Ep,FK,hx,Nat.beq_refl];rfl
theorem Qx {sz off n b ver o len:Nat} {cap:Option Nat} {cs:List V} {ty:TypeId} {v:V} (hn:n<len) (h:σ.get b=some (.blk cs ty ver false)) (hx:o+(n*sz+off)<cs.length) (K:St→Option R):Ju sz (.ref b ver o len cap) (n:Int) off v σ K=K (σ.put b (.blk (cs.set (o+(n*sz+off)) v) ty ver false)):=by
 show gd (Nat.ble (Nat.succ n) len) (bs1 σ b ver (Nat.add o (Nat.add (Nat.mul n sz) off)) v K)=_
 have:Nat.ble (Nat.succ n) len=true:=Nat.ble_eq_true_of_le hn
 rw [this]
 exact wM h hx K
end
theorem ES (n:Nat):Int.ofNat (no_index (OfNat.ofNat n))=(OfNat.ofNat n:Int):=rfl
section
variable {R:Type} {σ:St}
theorem Wk (elem sz n:Nat) (new:List V) (hn:n≤4294967296) (K:V→St→Option R):BQ elem sz n new .nilS σ K=K (.ref σ.n 0 0 n none) (σ.new (.blk new elem 0 false)):=by
 show (fN (Nat.add 0 n) fun need=>gd (Nat.ble need 4294967296) (σ.newK (.blk new elem 0 false) fun b σ'=>K (.ref b 0 0 need none) σ'))=_
 rw [Cc,show Nat.add 0 n=n from Nat.zero_add n,Nat.ble_eq_true_of_le hn,Eh,St.zAI]
theorem Wl {elem sz n b ver l:Nat} {new cs:List V} (h:σ.get b=some (.blk cs elem ver false)) (hl:cs.length=l*sz) (hn:0<n*sz) (hb:l+n≤4294967296) (K:V→St→Option R) :
 BQ elem sz n new (.ref b ver 0 l none) σ K=K (.ref b (ver+1) 0 (l+n) none) (σ.put b (.blk (cs++new) elem (ver+1) false)):=by
 show (fN (Nat.add l n) fun need=>gd (Nat.ble need 4294967296) (oK (σ.getF b) fun o=>AO.rec (fun cs ty ver' fz=>Bool.rec (gd (Nat.beq ver ver')
       (gd (Nat.beq ty elem) (bK (Nat.ble (Nat.add 0 (Nat.mul need sz)) (BN cs))
         (oK (CX cs (Nat.add 0 (Nat.mul l sz)) new) fun cs'=>σ.putK b (.blk cs' ty ver false) fun σ'=>K (.ref b ver 0 need none) σ')
         (gd (Nat.ble (Nat.add 0 (Nat.mul l sz)) (BN cs)) (fN (Nat.succ ver) fun ver2=>σ.putK b (.blk (GU (Ko cs 0 (Nat.mul l sz)) new) ty ver2 false) fun σ'=>K (.ref b ver2 0 need none) σ'))))) none fz) (fun _ _=>none) o))=_
 rw [Cc,show Nat.add l n=l+n from rfl,Nat.ble_eq_true_of_le hb,Eh,St.getF_eq,h,EL]
 simp only
 rw [Nat.beq_refl,Nat.beq_refl,Eh,Eh,Bv,hl]
 have e1:Nat.ble (Nat.add 0 (Nat.mul (l+n) sz)) (l*sz)=false:=by
  cases hb:Nat.ble (Nat.add 0 (Nat.mul (l+n) sz)) (l*sz) with
  | false=>rfl
  | true =>
   have:=Nat.le_of_ble_eq_true hb
   have e:Nat.add 0 (Nat.mul (l+n) sz)=(l+n)*sz:=Nat.zero_add _
   rw [e,Nat.add_mul] at this
   omega
 have e2:Nat.ble (Nat.add 0 (Nat.mul l sz)) (l*sz)=true:=Nat.ble_eq_true_of_le (by rw [show Nat.add 0 (Nat.mul l sz)=l*sz from Nat.zero_add _];exact Nat.le_refl _)
 rw [e1,FJ,if_neg (by simp),e2,Eh,Cc,St.zAQ,IP]
 have e3:Ko cs 0 (Nat.mul l sz)=cs:=by
  show bK (Nat.beq (BN cs) (Nat.mul l sz)) cs (CZ cs (Nat.mul l sz))=cs
  rw [Bv,hl,show Nat.mul l sz=l*sz from rfl,Nat.beq_refl];rfl
 rw [e3]
end
theorem J6 (vs:List V) (σ:St) (K:List V→St→Res):Bu (some (.norm,vs,σ)) K=K vs σ:=rfl
theorem Wn (vs:List V) (σ:St) (K:List V→St→Res):Bu (some (.ret,vs,σ)) K=some (.ret,vs,σ):=rfl
theorem Wm (i:Nat) (vs:List V) (σ:St) (K:List V→St→Res):Bu (some (.exit i,vs,σ)) K=some (.exit i,vs,σ):=rfl
theorem Wo (i:Nat) (vs:List V) (σ:St) (K:List V→St→Res):A7 i (some (.norm,vs,σ)) K=K vs σ:=rfl
theorem Wq (i:Nat) (vs:List V) (σ:St) (K:List V→St→Res):A7 i (some (.ret,vs,σ)) K=some (.ret,vs,σ):=rfl
theorem Wp (i:Nat) (vs:List V) (σ:St) (K:List V→St→Res):A7 i (some (.exit i,vs,σ)) K=K vs σ:=by
 show Bool.rec (motive:=fun _=>Res) (some (.exit i,vs,σ)) (K vs σ) (Nat.beq i i)=_;rw [Nat.beq_refl]
theorem En (P:List V→St→Res) (k:Nat) (vs:List V) (σ:St):Ak P (k+1) vs σ=Bu (P vs σ) (Ak P k):=rfl
section
variable {R:Type}
theorem Xk (f:St→Option R) (σ:St):un0 f [] σ=f σ:=rfl
theorem Ej (f:V→St→Option R) (a:V) (σ:St):un1 f [a] σ=f a σ:=rfl
theorem H9 (f:V→V→St→Option R) (a b:V) (σ:St):un2 f [a,b] σ=f a b σ:=rfl
theorem NR (f:V→V→V→St→Option R) (a b c:V) (σ:St):un3 f [a,b,c] σ=f a b c σ:=rfl
theorem Xl (f:V→V→V→V→St→Option R) (a b c d:V) (σ:St):un4 f [a,b,c,d] σ=f a b c d σ:=rfl
theorem Xm (f:V→V→V→V→V→St→Option R) (a b c d e:V) (σ:St):un5 f [a,b,c,d,e] σ=f a b c d e σ:=rfl
theorem Xn (f:V→V→V→V→V→V→St→Option R) (a b c d e g:V) (σ:St):un6 f [a,b,c,d,e,g] σ=f a b c d e g σ:=rfl
theorem Xo (f:V→V→V→V→V→V→V→St→Option R) (a b c d e g h:V) (σ:St):un7 f [a,b,c,d,e,g,h] σ=f a b c d e g h σ:=rfl
theorem Xp (f:V→V→V→V→V→V→V→V→St→Option R) (a b c d e g h i:V) (σ:St):un8 f [a,b,c,d,e,g,h,i] σ=f a b c d e g h i σ:=rfl
end
section
variable {R:Type}
theorem Wj (σ:St) (X:Option (Bool×St)) (K:Bool→St→Option R):A8 true σ X K=pK X K:=rfl
theorem Wh (σ:St) (X:Option (Bool×St)) (K:Bool→St→Option R):A8 false σ X K=K false σ:=rfl
theorem XM (σ:St) (X:Option (Bool×St)) (K:Bool→St→Option R):orK true σ X K=K true σ:=rfl
theorem XK (σ:St) (X:Option (Bool×St)) (K:Bool→St→Option R):orK false σ X K=pK X K:=rfl
end
def Mh (P:Program):List Field→Nat→Nat→Bool
 | [],k,n=>Nat.beq k n
 | f :: r,k,n=>Nat.beq f.offset k&&Mh P r (k+P.cellsOf f.type) n
def IX (P:Program):Nat→TypeId→Bool
 | 0,_=>false
 | n+1,t=>match P.underlying t with
  | some .bool | some (.int _) | some .string=>true
  | some (.slice e)=>IX P n e&&Nat.blt 0 (P.cellsOf e)&&(match P.underlying e with | some d=>Bc d||Nat.beq (P.cellsOf e) 1 | none=>false)
  | some (.struct fs)=>(fs.toList.all fun f=>IX P n f.type)&&Mh P fs.toList 0 (P.cellsOf t)
  | _=>false
def DY (P:Program) (e:TypeId) (cs:List V):V :=
 match P.underlying e with
 | some d=>if Bc d then .agg cs else cs.headD .opq
 | none=>.opq
def DM (P:Program):Nat→TypeId→List V→Prop
 | 0,_,_=>False
 | n+1,t,vs=>match P.underlying t with
  | some .bool=>∃ b,vs=[.bool b]
  | some (.int k)=>∃ z,vs=[.int k z]∧k.min≤z∧z≤k.max
  | some .string=>∃ s,vs=[.str s]∧s.length≤9223372036854775807
  | some (.slice e)=>vs=[.nilS]∨∃ cells:List (List V),vs=[.lst (cells.map (DY P e)) false]∧cells.length≤9223372036854775807∧∀ c∈cells,DM P n e c
  | some (.struct fs)=>∃ parts:List (List V),vs=parts.flatten∧parts.length=fs.size∧∀ (i:Nat) (f:Field) (p:List V),fs[i]? = some f→parts[i]? = some p→DM P n f.type p
  | _=>False
def DB (w:World):Mem:=fun x=>w.heap[x]?
theorem tH (P:Program) (w:World) (σ:St):SR P (fun _=>none) (DB w) σ w :=
 ⟨fun _ _ h=>(by cases h),fun _ _ h=>(by cases h),fun _ _ _ _ h=>(by cases h),fun _ _ h=>h,fun _ _ h=>(by cases h)⟩
section
variable {H:Type} {enc:TypeId×Value→H} {P:Program} {w w':World}
theorem Lf {base:Nat} {a:Addr} {n:Nat} {l:List Value} (h:w.cells? base a n=some l):l.length=n∧∀ i,i<n→w.cell? (a.add i)=l[i]? := by
 unfold World.cells? at h
 split at h
 ·have hl:l.length=n:=by simpa using mapM_some_length h
  exact ⟨hl,fun i hi=>mapM_some_get h i i (by simp [hi])⟩
 ·cases h
theorem R8 {a:Addr} {v:Value} (h:w.cell? a=some v): ∃ cs t fr,w.heap[a.block]? = some (.cells cs t fr)∧a.spot=none∧cs[a.off]? = some v:=by
 unfold World.cell? at h
 split at h
 ·rename_i cs t fr hh
  split at h
  ·cases h
  ·rename_i hs
   refine ⟨cs,t,fr,hh,?_,h⟩
   cases hsp:a.spot with
   | none=>rfl
   | some s=>rw [hsp] at hs;exact absurd rfl hs
 ·cases h
theorem La (a:Addr) (n:Nat):(a.add n).block=a.block∧(a.add n).off=a.off+n:=by
 unfold Addr.add
 split
 ·rename_i h;subst h;exact ⟨rfl,rfl⟩
 ·exact ⟨rfl,rfl⟩
theorem rM {base:Nat} {a:Addr} {n:Nat} {l:List Value} (h:w.cells? base a n=some l) {cs:Array Value} {t:TypeId} {fr:Nat×Nat} (hb:w.heap[a.block]? = some (.cells cs t fr)):((cs.toList.drop a.off).take n)=l:=by
 obtain ⟨hl,hg⟩:=Lf h
 apply List.ext_getElem?
 intro i
 by_cases hi:i<n
 ·have h1:=hg i hi
  obtain ⟨v,hv⟩: ∃ v,l[i]? = some v:=⟨l[i],by simp [hl,hi]⟩
  rw [hv] at h1
  obtain ⟨cs',t',fr',h2,_,h3⟩:=R8 h1
  rw [(La a i).1,hb] at h2
  cases h2
  rw [(La a i).2] at h3
  rw [hv,List.getElem?_take,if_pos hi,List.getElem?_drop]
  simpa using h3
 ·rw [List.getElem?_take,if_neg hi]
  exact (List.getElem?_eq_none (by omega)).symm
theorem OJ {A:Type} {Q:Nat→A→Prop}: ∀ (n:Nat),(∀ i,i<n→∃ y,Q i y)→∃ L:List A,L.length=n∧∀ i y,L[i]? = some y→Q i y
 | 0,_=>⟨[],rfl,fun i y h=>by simp at h⟩
 | n+1,h=>by
  obtain ⟨L,h1,h2⟩:=OJ n (fun i hi=>h i (by omega))
  obtain ⟨y,hy⟩:=h n (by omega)
  refine ⟨L++[y],by simp [h1],fun i z hz=>?_⟩
  rw [List.getElem?_append] at hz
  split at hz
  ·exact h2 i z hz
  ·rename_i hi
   have:i=n:=by
    have:i - L.length<1:=by
     rcases Nat.lt_or_ge (i - L.length) 1 with h | h
     ·exact h
     ·rw [List.getElem?_eq_none (by simpa using h)] at hz;cases hz
    omega
   subst this
   rw [h1,Nat.sub_self] at hz
   cases hz;exact hy
theorem vM {n:Nat} {e:TypeId} {c:List V} {d:TypeDesc} (hd:P.underlying e=some d) (ha:Bc d=false) (h:DM P n e c): ∃ v,c=[v]∧v.cells=[v]:=by
 cases n with
 | zero=>exact h.elim
 | succ n =>
  unfold DM at h
  rw [hd] at h
  cases d<;>simp only at h<;>first | exact h.elim | skip
  ·obtain ⟨b,rfl⟩:=h;exact ⟨_,rfl,rfl⟩
  ·obtain ⟨z,rfl,_⟩:=h;exact ⟨_,rfl,rfl⟩
  ·obtain ⟨z,rfl,_⟩:=h;exact ⟨_,rfl,rfl⟩
  ·rcases h with rfl | ⟨cells,rfl,_⟩
   ·exact ⟨_,rfl,rfl⟩
   ·exact ⟨_,rfl,rfl⟩
  ·cases ha
theorem Uw {n:Nat} {e:TypeId} {c:List V} {d:TypeDesc} (hd:P.underlying e=some d) (h:DM P n e c):(DY P e c).cells=c:=by
 unfold DY
 rw [hd]
 simp only
 cases ha:Bc d with
 | true=>simp [V.cells]
 | false =>
  obtain ⟨v,rfl,hv⟩:=vM hd ha h
  simpa using hv
theorem VS {ρ:Ren} {M:Mem} {e:TypeId} {n sz:Nat} {d:TypeDesc} (hd:P.underlying e=some d): ∀ (L:List (List V)) (row:List Value),(∀ (i:Nat) (c:List V),L[i]? = some c→DM P n e c∧c.length=sz∧VRL ρ M c ((row.drop (i*sz)).take sz))→Bp ρ M sz (L.map (DY P e)) row
 | [],row,_=>.nil sz row
 | c :: L,row,h=>by
  obtain ⟨h1,h2,h3⟩:=h 0 c rfl
  have ih:=VS hd L (row.drop sz) (fun i c' hc'=>by
   obtain ⟨a1,a2,a3⟩:=h (i+1) c' (by simpa using hc')
   refine ⟨a1,a2,?_⟩
   rw [List.drop_drop]
   rw [Nat.add_mul,Nat.one_mul,Nat.add_comm] at a3
   exact a3)
  have e0:row=(row.take sz)++row.drop sz:=(List.take_append_drop sz row).symm
  rw [Nat.zero_mul,List.drop_zero] at h3
  rw [e0]
  have hc:=Uw hd h1
  exact .cons sz (DY P e c) (L.map (DY P e)) _ _ (by rw [hc];exact h3) (by rw [hc];exact h2) ih
theorem TZ {ρ:Ren} {M:Mem} {cs:List Value}: ∀ (fs:List Field) (parts:List (List V)) (k n:Nat),Mh P fs k n=true→cs.length=n→parts.length=fs.length→(∀ (i:Nat) (f:Field) (p:List V),fs[i]? = some f→parts[i]? = some p→VRL ρ M p ((cs.drop f.offset).take (P.cellsOf f.type)))→VRL ρ M parts.flatten (cs.drop k)
 | [],[],k,n,h,hl,_,_=>by
  have:=Nat.eq_of_beq_eq_true (show Nat.beq k n=true from h)
  rw [List.drop_eq_nil_of_le (by omega)]
  exact .nil
 | f :: fs,p :: parts,k,n,h,hl,hp,hv=>by
  simp only [Mh,Bool.and_eq_true] at h
  have hk:=Nat.eq_of_beq_eq_true h.1
  have h0:=hv 0 f p rfl rfl
  have ih:=TZ fs parts (k+P.cellsOf f.type) n h.2 hl (by simpa using hp) (fun i f' p' hf hp'=>hv (i+1) f' p' (by simpa using hf) (by simpa using hp'))
  rw [hk] at h0
  have e0:cs.drop k=((cs.drop k).take (P.cellsOf f.type))++cs.drop (k+P.cellsOf f.type):=by
   rw [←List.drop_drop];exact (List.take_append_drop _ _).symm
  rw [List.flatten_cons,e0]
  exact h0.append ih
 | [],_ :: _,_,_,_,_,h,_=>by simp at h
 | _ :: _,[],_,_,_,_,h,_=>by simp at h
theorem WI {base:Nat} {sp:Nat→Bool} {held:Bool}: ∀ (n m:Nat) (t:TypeId) (cs:List Value) (x:DataW H×List MemPlace),IX P n t=true→DataW.trod enc P w base sp held m t cs=some x→∃ vs,DM P n t vs∧VRL (fun _=>none) (DB w) vs cs:=by
 intro n
 induction n with
 | zero=>intro m t cs x h;cases h
 | succ n ih =>
  intro m t cs x hd h
  cases m with
  | zero=>cases h
  | succ m =>
   unfold IX at hd
   unfold DM
   cases hu:P.underlying t with
   | none=>rw [hu] at hd;cases hd
   | some d =>
    rw [hu] at hd
    rw [DataW.trod_step] at h
    unfold DataW.trodStep at h
    rw [hu] at h
    cases d with
    | bool =>
     rcases cs with _ | ⟨c,_ | ⟨c',r⟩⟩
     ·simp at h
     ·cases c<;>simp at h
      exact ⟨_,⟨_,rfl⟩,.cons _ _ _ _ (.bool _) .nil⟩
     ·simp at h
    | int k =>
     rcases cs with _ | ⟨c,_ | ⟨c',r⟩⟩
     ·simp at h
     ·cases c<;>simp at h
      rename_i k' z
      obtain ⟨⟨rfl,hw⟩,_⟩:=h
      simp [Lit.wf] at hw
      exact ⟨_,⟨_,rfl,hw.1,hw.2⟩,.cons _ _ _ _ (.int _ _) .nil⟩
     ·simp at h
    | string =>
     rcases cs with _ | ⟨c,_ | ⟨c',r⟩⟩
     ·simp at h
     ·cases c<;>simp at h
      rename_i s
      refine ⟨[.str s.data.toList],⟨_,rfl,?_⟩,.cons _ _ _ _ ?_ .nil⟩
      ·have h1:s.size≤maxLen:=h.1
       have e:maxLen=9223372036854775807:=rfl
       rw [e] at h1
       rw [Array.length_toList]
       exact h1
      ·have:s=⟨s.data.toList.toArray⟩:=by cases s;simp
       rw [this];exact .str _
     ·simp at h
    | slice e =>
     simp only [Bool.and_eq_true] at hd
     obtain ⟨⟨hde,hsz⟩,hone⟩:=hd
     have hsz:0<P.cellsOf e:=(Nat.blt_eq).mp hsz
     obtain ⟨de,hde',hone⟩: ∃ de,P.underlying e=some de∧(Bc de||Nat.beq (P.cellsOf e) 1)=true:=by
      cases hx:P.underlying e with
      | none=>rw [hx] at hone;cases hone
      | some de=>rw [hx] at hone;exact ⟨de,rfl,hone⟩
     rcases cs with _ | ⟨c,_ | ⟨c',r⟩⟩
     ·simp at h
     ·cases c<;>simp only [reduceCtorEq] at h
      rename_i a len cap
      cases a with
      | none =>
       have:len=0∧cap=0:=by
        rcases len with _ | len<;>rcases cap with _ | cap<;>simp at h ⊢
       obtain ⟨rfl,rfl⟩:=this
       exact ⟨[.nilS],.inl rfl,.cons _ _ _ _ .nilS .nil⟩
      | some a =>
       simp only at h
       split at h
       ·rename_i hc
        simp only [Option.map_eq_some_iff,Option.bind_eq_some_iff] at h
        obtain ⟨elems,he,_⟩:=h
        have hlen:elems.length=len:=by simpa using mapM_some_length he
        have one: ∀ i,i<len→∃ c:List V,DM P n e c∧∃ l,w.cells? base (a.add (i*P.cellsOf e)) (P.cellsOf e)=some l∧VRL (fun _=>none) (DB w) c l:=by
         intro i hi
         have h1:=mapM_some_get he i i (by simp [hi])
         have: ∃ y,elems[i]? = some y:=⟨elems[i],by simp [hlen,hi]⟩
         obtain ⟨y,hy⟩:=this
         rw [hy,Option.bind_eq_some_iff] at h1
         obtain ⟨l,h2,h3⟩:=h1
         obtain ⟨c,h4,h5⟩:=ih m e l y hde h3
         exact ⟨c,h4,l,h2,h5⟩
        obtain ⟨L,hL,hQ⟩:=OJ len one
        refine ⟨[.lst (L.map (DY P e)) false],.inr ⟨L,rfl,?_,fun c hc'=>?_⟩,.cons _ _ _ _ ?_ .nil⟩
        ·have:=hc.2.2;simp only [maxLen] at this;omega
        ·obtain ⟨i,hi⟩:=List.mem_iff_getElem?.1 hc'
         exact (hQ i c hi).1
        ·rcases L with _ | ⟨c0,L⟩
         ·simp only [List.length_nil] at hL
          subst hL
          exact .lst0 false a cap (fun h=>by cases h)
         ·obtain ⟨_,l0,r0,_⟩:=hQ 0 c0 rfl
          obtain ⟨hl0,g0⟩:=Lf r0
          obtain ⟨v0,hv0⟩: ∃ v,l0[0]? = some v:=⟨l0[0],by simp⟩
          have g:=g0 0 hsz
          rw [hv0,Nat.zero_mul] at g
          have ea:(a.add 0).add 0=a:=rfl
          rw [ea] at g
          obtain ⟨cells,tt,fr,hb,hspot,_⟩:=R8 g
          have hrows:Bp (fun _=>none) (DB w) (P.cellsOf e) ((c0 :: L).map (DY P e)) (cells.toList.drop a.off):=by
           refine VS (n:=n) hde' (c0 :: L) _ (fun i c hi=>?_)
           obtain ⟨q1,l,q2,q3⟩:=hQ i c hi
           have hb':w.heap[(a.add (i*P.cellsOf e)).block]? = some (.cells cells tt fr):=by rw [(La a _).1];exact hb
           have hrow:=rM q2 hb'
           rw [(La a _).2,←List.drop_drop] at hrow
           rw [hrow]
           exact ⟨q1,by rw [q3.length];exact (Lf q2).1,q3⟩
          have hpc:(DY P e c0).cells.length=P.cellsOf e:=by
           rw [Uw hde' (hQ 0 c0 rfl).1]
           obtain ⟨_,l,q2,q3⟩:=hQ 0 c0 rfl
           rw [q3.length];exact (Lf q2).1
          have hl:len=(L.map (DY P e)).length+1:=by simp at hL ⊢;omega
          have hcap:=hc.2.1
          have hea:a=⟨a.block,a.off,none⟩:=by cases a;simp at hspot;subst hspot;rfl
          rw [hea,hl,List.map_cons]
          exact .lst _ _ false a.block a.off cap cells tt fr hb (by rw [hpc];exact hrows) (by omega) (fun h=>by cases h)
       ·cases h
     ·simp at h
    | struct fs =>
     simp only [Bool.and_eq_true,List.all_eq_true] at hd
     simp only at h
     split at h
     ·rename_i hc
      simp only [Option.map_eq_some_iff] at h
      obtain ⟨xs,hx,_⟩:=h
      have hlen:xs.length=fs.toList.length:=mapM_some_length hx
      have one: ∀ i,i<fs.toList.length→∃ c:List V,∀ f,fs[i]? = some f→DM P n f.type c∧VRL (fun _=>none) (DB w) c ((cs.drop f.offset).take (P.cellsOf f.type)):=by
       intro i hi
       have hf:fs.toList[i]? = some fs.toList[i]:=by simp
       have h1:=mapM_some_get hx i _ hf
       obtain ⟨y,hy⟩: ∃ y,xs[i]? = some y:=⟨xs[i],by simp⟩
       rw [hy] at h1
       obtain ⟨c,h4,h5⟩:=ih m _ _ y (hd.1 _ (List.getElem_mem hi)) h1
       refine ⟨c,fun f hf'=>?_⟩
       have:fs.toList[i]=f:=by
        have e:fs.toList[i]? = some f:=by simpa using hf'
        rw [hf] at e;cases e;rfl
       rw [←this]
       exact ⟨h4,h5⟩
      obtain ⟨L,hL,hQ⟩:=OJ fs.toList.length one
      refine ⟨L.flatten,⟨L,rfl,by simpa using hL,fun i f p hf hp=>(hQ i p hp f hf).1⟩,?_⟩
      have:=TZ (P:=P) (cs:=cs) (M:=DB w) (ρ:=fun _=>none) fs.toList L 0 (P.cellsOf t) hd.2 hc hL (fun i f p hf hp=>(hQ i p hp f (by simpa using hf)).2)
      simpa using this
     ·cases h
    | _=>cases hd
theorem vD {base:Nat} {sp:Nat→Bool} {held:Bool}: ∀ (n m:Nat) (t:TypeId) (cs:List Value) (x:DataW H×List MemPlace),IX P n t=true→DataW.trod enc P w base (fun _=>true) held m t cs=some x→(∀ p∈x.2,sp p.block=true)→DataW.trod enc P w base sp held m t cs=some x:=by
 intro n
 induction n with
 | zero=>intro m t cs x h;cases h
 | succ n ih =>
  intro m t cs x hd h hs
  cases m with
  | zero=>cases h
  | succ m =>
   unfold IX at hd
   cases hu:P.underlying t with
   | none=>rw [hu] at hd;cases hd
   | some d =>
    rw [hu] at hd
    rw [DataW.trod_step] at h ⊢
    unfold DataW.trodStep at h ⊢
    rw [hu] at h ⊢
    cases d with
    | bool =>
     rcases cs with _ | ⟨c,_ | ⟨c',r⟩⟩
     ·simp at h
     ·cases c<;>first | exact h | (simp at h;done)
     ·simp at h
    | int k =>
     rcases cs with _ | ⟨c,_ | ⟨c',r⟩⟩
     ·simp at h
     ·cases c<;>first | exact h | (simp at h;done)
     ·simp at h
    | string =>
     rcases cs with _ | ⟨c,_ | ⟨c',r⟩⟩
     ·simp at h
     ·cases c<;>first | exact h | (simp at h;done)
     ·simp at h
    | slice e =>
     simp only [Bool.and_eq_true] at hd
     obtain ⟨⟨hde,hsz⟩,_⟩:=hd
     have hsz:0<P.cellsOf e:=(Nat.blt_eq).mp hsz
     rcases cs with _ | ⟨c,_ | ⟨c',r⟩⟩
     ·simp at h
     ·cases c<;>simp only [reduceCtorEq] at h ⊢
      rename_i a len cap
      cases a with
      | none=>rcases len with _ | len<;>rcases cap with _ | cap<;>first | exact h | (simp at h;done)
      | some a =>
       simp only at h ⊢
       split at h
       ·rename_i hc
        rw [if_pos hc]
        simp only [Option.map_eq_some_iff,Option.bind_eq_some_iff] at h ⊢
        obtain ⟨elems,he,rest,hrest,rfl⟩:=h
        simp only [if_true] at hrest
        have hlen:elems.length=len:=by simpa using mapM_some_length he
        have hrl:rest.length=cap - len:=by simpa using mapM_some_length hrest
        have one: ∀ (i:Nat) (y:DataW H×List MemPlace),y∈elems++rest→(w.cells? base (a.add (i*P.cellsOf e)) (P.cellsOf e)).bind (DataW.trod enc P w base (fun _=>true) held m e)=some y→(w.cells? base (a.add (i*P.cellsOf e)) (P.cellsOf e)).bind (DataW.trod enc P w base sp held m e)=some y:=by
         intro i y hy hv
         simp only [Option.bind_eq_some_iff] at hv ⊢
         obtain ⟨cs',hc',hy'⟩:=hv
         exact ⟨cs',hc',ih m e cs' y hde hy' (fun p hp=>hs p (by simp only [List.mem_append,List.mem_flatMap];exact .inr ⟨y,by simpa using hy,hp⟩))⟩
        refine ⟨elems,mapM_carry he (fun i y _ hy=>one i y (by simp [hy])),rest,?_,rfl⟩
        by_cases hz:cap - len=0
        ·rw [hz] at hrl hrest ⊢
         have:rest=[]:=List.eq_nil_of_length_eq_zero hrl
         subst this
         split<;>rfl
        ·have hsp:sp a.block=true:=by
          refine hs (.cell a.block (a.off+0)) ?_
          simp only [List.mem_append]
          left
          refine MemPlace.mem_row.2 ⟨0,?_,rfl⟩
          have:0<(elems.length+rest.length):=by omega
          exact Nat.mul_pos this hsz
         rw [if_pos hsp]
         exact mapM_carry hrest (fun j y _ hy=>one (len+j) y (by simp [hy]))
       ·cases h
     ·simp at h
    | struct fs =>
     simp only [Bool.and_eq_true,List.all_eq_true] at hd
     simp only at h ⊢
     split at h
     ·rename_i hc
      rw [if_pos hc]
      simp only [Option.map_eq_some_iff] at h ⊢
      obtain ⟨xs,hx,rfl⟩:=h
      exact ⟨xs,mapM_carry hx (fun f y hf hy hv=>ih m _ _ y (hd.1 f hf) hv (fun p hp=>hs p (List.mem_flatMap.2 ⟨y,hy,hp⟩))),rfl⟩
     ·cases h
    | _=>cases hd
theorem WE {sp:Nat→Bool} (hh: ∀ i,i<w.heap.size→w'.heap[i]? = w.heap[i]?) {n:Nat}: ∀ {ts:List TypeId} {vs:List Value} {ds:List (DataW H)} {ps:List MemPlace},(ts.all fun t=>IX P n t)=true→DataW.TrodAll enc P w 0 (fun _=>true) true ts vs ds ps→(∀ p∈ps,p.block<w.heap.size)→(∀ p∈ps,sp p.block=true)→DataW.TrodAll enc P w' 0 sp true ts vs ds ps
 | [],[],[],ps,_,h,_,_=>h
 | t :: ts,v :: vs,d :: ds,ps,ht,h,hlt,hsp=>by
  simp only [List.all_cons,Bool.and_eq_true] at ht
  obtain ⟨p,q,⟨fuel,h1⟩,h2,rfl⟩:=h
  refine ⟨p,q,⟨fuel,?_⟩,WE hh ht.2 h2 (fun x hx=>hlt x (by simp [hx])) (fun x hx=>hsp x (by simp [hx])),rfl⟩
  refine vD n fuel t _ _ ht.1 (DataW.trod_carry fuel t _ _ h1 (fun x hx=>?_)) (fun x hx=>hsp x (by simp only [List.mem_append];exact .inl hx))
  have hb:=hlt x (by simp only [List.mem_append];exact .inl hx)
  cases x with
  | cell b off =>
   show w'.cell? _=w.cell? _
   unfold World.cell?
   rw [hh b hb]
  | map b=>exact hh b hb
 | [],_ :: _,_,_,_,h,_,_=>h.elim
 | [],[],_ :: _,_,_,h,_,_=>h.elim
 | _ :: _,[],_,_,_,h,_,_=>by cases ‹List (DataW H)›<;>exact h.elim
 | _ :: _,_ :: _,[],_,_,h,_,_=>h.elim
end
end SS
