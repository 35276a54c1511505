/-
  part 6 of the proof; no condition.
-/
import Derived.Test.YtglndmmlghpdpaaGreatDoorPE
namespace SS
open Go
noncomputable section
section
variable {R:Type}
def fN (m:Nat) (K:Nat→R):R:=Nat.rec (K 0) (fun p _=>K (Nat.succ p)) m
theorem Cc (m:Nat) (K:Nat→R):fN m K=K m:=by cases m<;>rfl
def iK (x:Int) (K:Int→R):R:=Int.rec (fun m=>fN m fun m=>K (.ofNat m)) (fun m=>fN m fun m=>K (.negSucc m)) x
theorem C4 (x:Int) (K:Int→R):iK x K=K x:=by cases x<;>simp [iK,Cc]
def oK {A:Type} (x:Option A) (K:A→Option R):Option R:=Option.rec none K x
theorem BO {A:Type} {x:Option A} {K:A→Option R} {r:R} (h:oK x K=some r): ∃ a,x=some a∧K a=some r:=by
 cases x with
 | none=>cases h
 | some a=>exact ⟨a,rfl,h⟩
def pK {A B:Type} (x:Option (A×B)) (K:A→B→Option R):Option R:=Option.rec none (fun p=>Prod.rec K p) x
theorem Fy {A B:Type} {x:Option (A×B)} {K:A→B→Option R} {r:R} (h:pK x K=some r): ∃ a b,x=some (a,b)∧K a b=some r:=by
 cases x with
 | none=>cases h
 | some a=>obtain ⟨a,b⟩:=a;exact ⟨a,b,rfl,h⟩
def bK (c:Bool) (X Y:R):R:=Bool.rec Y X c
abbrev bC (c:Bool) (X Y:R):R:=Bool.rec Y X c
theorem FJ (c:Bool) (X Y:R):bK c X Y=if c then X else Y:=by cases c<;>rfl
def gd (c:Bool) (X:Option R):Option R:=Bool.rec none X c
theorem CG {c:Bool} {X:Option R} {r:R} (h:gd c X=some r):c=true∧X=some r:=by
 cases c with
 | false=>cases h
 | true=>exact ⟨rfl,h⟩
end
section
variable {A:Type}
def BN (l:List A):Nat:=List.rec 0 (fun _ _ n=>Nat.add n 1) l
theorem Bv (l:List A):BN l=l.length:=by
 induction l with
 | nil=>rfl
 | cons a l ih=>exact congrArg (·+ 1) ih
def DW (l:List A) (n:Nat):Option A:=List.rec (motive:=fun _=>Nat→Option A) (fun _=>none) (fun h _ ih n=>Nat.rec (some h) (fun p _=>ih p) n) l n
theorem DX (l:List A) (n:Nat):DW l n=l[n]? := by
 induction l generalizing n with
 | nil=>rfl
 | cons a l ih=>cases n with
  | zero=>rfl
  | succ n=>exact (ih n).trans (by simp)
def EF (l:List A) (n:Nat):List A:=List.rec (motive:=fun _=>Nat→List A) (fun _=>[]) (fun h t ih n=>Nat.rec (h :: t) (fun p _=>ih p) n) l n
theorem FK (l:List A) (n:Nat):EF l n=l.drop n:=by
 induction l generalizing n with
 | nil=>simp [EF]
 | cons a l ih=>cases n with
  | zero=>rfl
  | succ n=>exact (ih n).trans (by simp)
def CZ (l:List A) (n:Nat):List A:=List.rec (motive:=fun _=>Nat→List A) (fun _=>[]) (fun h _ ih n=>Nat.rec [] (fun p _=>h :: ih p) n) l n
theorem Ep (l:List A) (n:Nat):CZ l n=l.take n:=by
 induction l generalizing n with
 | nil=>simp [CZ]
 | cons a l ih=>cases n with
  | zero=>rfl
  | succ n=>exact (congrArg (a :: ·) (ih n)).trans (by simp)
def GU (l m:List A):List A:=List.rec m (fun h _ ih=>h :: ih) l
theorem IP (l m:List A):GU l m=l++m:=by
 induction l with
 | nil=>rfl
 | cons a l ih=>exact congrArg (a :: ·) ih
def K7 (l:List A) (n:Nat) (x:A):List A:=List.rec (motive:=fun _=>Nat→List A) (fun _=>[]) (fun h t ih n=>Nat.rec (x :: t) (fun p _=>h :: ih p) n) l n
theorem QE (l:List A) (n:Nat) (x:A):K7 l n x=l.set n x:=by
 induction l generalizing n with
 | nil=>simp [K7]
 | cons a l ih=>cases n with
  | zero=>rfl
  | succ n=>exact (congrArg (a :: ·) (ih n)).trans (by simp)
def Ew (f:A→Bool) (l:List A):Bool:=List.rec true (fun h _ ih=>Bool.rec false ih (f h)) l
theorem YP (f:A→Bool) (l:List A):Ew f l=l.all f:=by
 induction l with
 | nil=>rfl
 | cons a l ih =>
  show Bool.rec (motive:=fun _=>Bool) false (Ew f l) (f a)=_
  rw [ih];cases h:f a<;>simp [h]
end
section
variable {A:Type}
theorem PT.zAF (l:PT A) (v:Option A) (r:PT A) (n:Nat):(PT.node l v r).get n=bif Nat.beq n 0 then v else bif Nat.beq (n % 2) 1 then l.get (n / 2) else r.get (n / 2 - 1):=rfl
theorem PT.zAR (k n:Nat) (x:A):PT.setF (k+1) .leaf n x=bif Nat.beq n 0 then .node .leaf (some x) .leaf else bif Nat.beq (n % 2) 1 then .node (PT.setF k .leaf (n / 2) x) none .leaf else .node .leaf none (PT.setF k .leaf (n / 2 - 1) x):=rfl
theorem PT.zAT (k n:Nat) (x:A) (l:PT A) (v:Option A) (r:PT A):PT.setF (k+1) (.node l v r) n x=bif Nat.beq n 0 then .node l (some x) r else bif Nat.beq (n % 2) 1 then .node (PT.setF k l (n / 2) x) v r else .node l v (PT.setF k r (n / 2 - 1) x):=rfl
def PT.getF (t:PT A) (n:Nat):Option A :=
 PT.rec (motive:=fun _=>Nat→Option A) (fun _=>none) (fun _ v _ gl gr n=>Nat.rec v (fun p _=>Bool.rec (gr (Nat.div p 2)) (gl (Nat.div p 2)) (Nat.beq (Nat.mod p 2) 0)) n) t n
theorem PT.getF_eq (t:PT A) (n:Nat):t.getF n=t.get n:=by
 induction t generalizing n with
 | leaf=>rfl
 | node l v r il ir =>
  cases n with
  | zero=>rfl
  | succ p =>
   show Bool.rec (motive:=fun _=>Option A) (r.getF (p / 2)) (l.getF (p / 2)) (Nat.beq (p % 2) 0)=_
   rw [il,ir]
   rw [PT.zAF]
   have h0:Nat.beq (p+1) 0=false:=rfl
   rw [h0]
   simp only [cond_false]
   by_cases hp:p % 2=0
   ·have e1:Nat.beq (p % 2) 0=true:=by rw [hp];rfl
    have e2:Nat.beq ((p+1) % 2) 1=true:=by rw [show (p+1) % 2=1 by omega];rfl
    rw [e1,e2];simp only [cond_true]
    rw [show (p+1) / 2=p / 2 by omega]
   ·have e1:Nat.beq (p % 2) 0=false:=by rw [show p % 2=1 by omega];rfl
    have e2:Nat.beq ((p+1) % 2) 1=false:=by rw [show (p+1) % 2=0 by omega];rfl
    rw [e1,e2];simp only [cond_false]
    rw [show (p+1) / 2 - 1=p / 2 by omega]
def PT.oneF (k n:Nat) (x:A):PT A :=
 Nat.rec (motive:=fun _=>Nat→PT A) (fun _=>.leaf) (fun _ ih n=>Nat.rec (.node .leaf (some x) .leaf) (fun p _=>Bool.rec (.node .leaf none (ih (Nat.div p 2))) (.node (ih (Nat.div p 2)) none .leaf) (Nat.beq (Nat.mod p 2) 0)) n) k n
theorem PT.zAN (k n:Nat) (x:A):PT.oneF k n x=PT.setF k .leaf n x:=by
 induction k generalizing n with
 | zero=>rfl
 | succ k ih =>
  cases n with
  | zero=>rfl
  | succ p =>
   show Bool.rec (motive:=fun _=>PT A) (.node .leaf none (PT.oneF k (p / 2) x)) (.node (PT.oneF k (p / 2) x) none .leaf) (Nat.beq (p % 2) 0)=_
   rw [ih,PT.zAR]
   have h0:Nat.beq (p+1) 0=false:=rfl
   rw [h0]
   simp only [cond_false]
   by_cases hp:p % 2=0
   ·have e1:Nat.beq (p % 2) 0=true:=by rw [hp];rfl
    have e2:Nat.beq ((p+1) % 2) 1=true:=by rw [show (p+1) % 2=1 by omega];rfl
    rw [e1,e2];simp only [cond_true]
    rw [show (p+1) / 2=p / 2 by omega]
   ·have e1:Nat.beq (p % 2) 0=false:=by rw [show p % 2=1 by omega];rfl
    have e2:Nat.beq ((p+1) % 2) 1=false:=by rw [show (p+1) % 2=0 by omega];rfl
    rw [e1,e2];simp only [cond_false]
    rw [show (p+1) / 2 - 1=p / 2 by omega]
def PT.setR (t:PT A) (n:Nat) (x:A):PT A :=
 PT.rec (motive:=fun _=>Nat→PT A) (fun n=>PT.oneF (Nat.succ n) n x) (fun l v r sl sr n=>Nat.rec (.node l (some x) r) (fun p _=>Bool.rec (.node l v (sr (Nat.div p 2))) (.node (sl (Nat.div p 2)) v r) (Nat.beq (Nat.mod p 2) 0)) n) t n
theorem PT.zAS (x:A): ∀ (k k':Nat) (t:PT A) (n:Nat),n<k→n<k'→PT.setF k t n x=PT.setF k' t n x
 | 0,_,_,_,h,_=>by omega
 | _,0,_,_,_,h=>by omega
 | k+1,k'+1,t,n,h,h'=>by
  cases hn:Nat.beq n 0 with
  | true=>cases t<;>simp [PT.setF,hn]
  | false =>
   have hn0:n≠0:=by rintro rfl;cases hn
   have i1:=fun t=>PT.zAS x k k' t (n / 2) (by omega) (by omega)
   have i2:=fun t=>PT.zAS x k k' t (n / 2 - 1) (by omega) (by omega)
   cases t<;>simp only [PT.setF,hn,i1,i2]
theorem PT.zAU (t:PT A) (n:Nat) (x:A):t.setR n x=t.set n x:=by
 induction t generalizing n with
 | leaf=>exact PT.zAN (n+1) n x
 | node l v r il ir =>
  cases n with
  | zero=>rfl
  | succ p =>
   show Bool.rec (motive:=fun _=>PT A) (.node l v (r.setR (p / 2) x)) (.node (l.setR (p / 2) x) v r) (Nat.beq (p % 2) 0)=_
   rw [il,ir]
   unfold PT.set
   have h0:Nat.beq (p+1) 0=false:=rfl
   rw [PT.zAT,h0]
   simp only [cond_false]
   by_cases hp:p % 2=0
   ·have e1:Nat.beq (p % 2) 0=true:=by rw [hp];rfl
    have e2:Nat.beq ((p+1) % 2) 1=true:=by rw [show (p+1) % 2=1 by omega];rfl
    rw [e1,e2];simp only [cond_true]
    rw [show (p+1) / 2=p / 2 by omega,PT.zAS x (p / 2+1) (p+1) l (p / 2) (by omega) (by omega)]
   ·have e1:Nat.beq (p % 2) 0=false:=by rw [show p % 2=1 by omega];rfl
    have e2:Nat.beq ((p+1) % 2) 1=false:=by rw [show (p+1) % 2=0 by omega];rfl
    rw [e1,e2];simp only [cond_false]
    rw [show (p+1) / 2 - 1=p / 2 by omega,PT.zAS x (p / 2+1) (p+1) r (p / 2) (by omega) (by omega)]
def PT.ofL (l:List (Nat×A)):PT A:=List.rec .leaf (fun p _ ih=>PT.setR ih p.1 p.2) l
def St.getF (σ:St) (b:Nat):Option AO:=PT.getF σ.h b
theorem St.getF_eq (σ:St) (b:Nat):σ.getF b=σ.get b:=PT.getF_eq _ _
def St.putK {R:Type} (σ:St) (b:Nat) (o:AO) (K:St→R):R:=fN (bK (Nat.ble (Nat.succ b) σ.tch) b σ.tch) fun m=>K { h:=PT.setR σ.h b o,n:=σ.n,tch:=m }
theorem St.zAQ {R:Type} (σ:St) (b:Nat) (o:AO) (K:St→R):σ.putK b o K=K (σ.put b o):=by
 unfold St.putK St.put
 rw [Cc,PT.zAU]
 congr 2
 show bK (Nat.blt b σ.tch) b σ.tch=_
 rw [FJ];cases Nat.blt b σ.tch<;>rfl
def St.newK {R:Type} (σ:St) (o:AO) (K:Nat→St→R):R:=fN σ.n fun n=>K n { h:=PT.setR σ.h n o,n:=Nat.succ n,tch:=σ.tch }
theorem St.zAI {R:Type} (σ:St) (o:AO) (K:Nat→St→R):σ.newK o K=K σ.n (σ.new o):=by
 unfold St.newK St.new
 rw [Cc,PT.zAU]
end
def IQ (f:Func):Code:=match f.body with
 | some c=>c
 | none=>.skip
inductive SL where
 | no
 | lst (xs:List V)
 | ref (b ver off len:Nat)
inductive SP where
 | no
 | ptr (b ver off:Nat)
 | eptr (xs:List V) (i j:Nat)
 | gptr (g off:Nat)
def V.asI32 (v:V):Option Int :=
 V.rec (motive_1:=fun _=>Option Int) (motive_2:=fun _=>Unit) (fun _=>none) (fun k n=>IntKind.rec (motive:=fun _=>Option Int) none none (some n) none none none none none k) (fun _=>none) (none) (none) (fun _ _ _=>none) (fun _ _ _ _ _=>none) (none) (fun _ _ _=>none) (fun _ _ _ _=>none) (fun _ _=>none) (none) (fun _=>none) (none) (fun _ _ _=>none) (none) (fun _ _ _=>none) (fun _ _=>none) (fun _ _=>none) (none) () (fun _ _ _ _=>()) v
def V.asI64 (v:V):Option Int :=
 V.rec (motive_1:=fun _=>Option Int) (motive_2:=fun _=>Unit) (fun _=>none) (fun k n=>IntKind.rec (motive:=fun _=>Option Int) none none none (some n) none none none none k) (fun _=>none) (none) (none) (fun _ _ _=>none) (fun _ _ _ _ _=>none) (none) (fun _ _ _=>none) (fun _ _ _ _=>none) (fun _ _=>none) (none) (fun _=>none) (none) (fun _ _ _=>none) (none) (fun _ _ _=>none) (fun _ _=>none) (fun _ _=>none) (none) () (fun _ _ _ _=>()) v
def V.asU8 (v:V):Option Int :=
 V.rec (motive_1:=fun _=>Option Int) (motive_2:=fun _=>Unit) (fun _=>none) (fun k n=>IntKind.rec (motive:=fun _=>Option Int) none none none none (some n) none none none k) (fun _=>none) (none) (none) (fun _ _ _=>none) (fun _ _ _ _ _=>none) (none) (fun _ _ _=>none) (fun _ _ _ _=>none) (fun _ _=>none) (none) (fun _=>none) (none) (fun _ _ _=>none) (none) (fun _ _ _=>none) (fun _ _=>none) (fun _ _=>none) (none) () (fun _ _ _ _=>()) v
def V.asU32 (v:V):Option Int :=
 V.rec (motive_1:=fun _=>Option Int) (motive_2:=fun _=>Unit) (fun _=>none) (fun k n=>IntKind.rec (motive:=fun _=>Option Int) none none none none none none (some n) none k) (fun _=>none) (none) (none) (fun _ _ _=>none) (fun _ _ _ _ _=>none) (none) (fun _ _ _=>none) (fun _ _ _ _=>none) (fun _ _=>none) (none) (fun _=>none) (none) (fun _ _ _=>none) (none) (fun _ _ _=>none) (fun _ _=>none) (fun _ _=>none) (none) () (fun _ _ _ _=>()) v
def V.asU64 (v:V):Option Int :=
 V.rec (motive_1:=fun _=>Option Int) (motive_2:=fun _=>Unit) (fun _=>none) (fun k n=>IntKind.rec (motive:=fun _=>Option Int) none none none none none none none (some n) k) (fun _=>none) (none) (none) (fun _ _ _=>none) (fun _ _ _ _ _=>none) (none) (fun _ _ _=>none) (fun _ _ _ _=>none) (fun _ _=>none) (none) (fun _=>none) (none) (fun _ _ _=>none) (none) (fun _ _ _=>none) (fun _ _=>none) (fun _ _=>none) (none) () (fun _ _ _ _=>()) v
def V.asAI (v:V):Option Int :=
 V.rec (motive_1:=fun _=>Option Int) (motive_2:=fun _=>Unit) (fun _=>none) (fun _ n=>some n) (fun _=>none) (none) (none) (fun _ _ _=>none) (fun _ _ _ _ _=>none) (none) (fun _ _ _=>none) (fun _ _ _ _=>none) (fun _ _=>none) (none) (fun _=>none) (none) (fun _ _ _=>none) (none) (fun _ _ _=>none) (fun _ _=>none) (fun _ _=>none) (none) () (fun _ _ _ _=>()) v
def V.asB (v:V):Option Bool :=
 V.rec (motive_1:=fun _=>Option Bool) (motive_2:=fun _=>Unit) (fun b=>some b) (fun _ _=>none) (fun _=>none) (none) (none) (fun _ _ _=>none) (fun _ _ _ _ _=>none) (none) (fun _ _ _=>none) (fun _ _ _ _=>none) (fun _ _=>none) (none) (fun _=>none) (none) (fun _ _ _=>none) (none) (fun _ _ _=>none) (fun _ _=>none) (fun _ _=>none) (none) () (fun _ _ _ _=>()) v
def V.asS (v:V):Option (List UInt8) :=
 V.rec (motive_1:=fun _=>Option (List UInt8)) (motive_2:=fun _=>Unit) (fun _=>none) (fun _ _=>none) (fun s=>some s) (none) (none) (fun _ _ _=>none) (fun _ _ _ _ _=>none) (none) (fun _ _ _=>none) (fun _ _ _ _=>none) (fun _ _=>none) (none) (fun _=>none) (none) (fun _ _ _=>none) (none) (fun _ _ _=>none) (fun _ _=>none) (fun _ _=>none) (none) () (fun _ _ _ _=>()) v
def V.asLen (v:V):Option Nat :=
 V.rec (motive_1:=fun _=>Option Nat) (motive_2:=fun _=>Unit) (fun _=>none) (fun _ _=>none) (fun _=>none) (some 0) (some 0) (fun xs _ _=>some (BN xs)) (fun _ _ _ len _=>some len) (none) (fun _ _ _=>none) (fun _ _ _ _=>none) (fun _ _=>none) (none) (fun _=>none) (none) (fun _ _ _=>none) (none) (fun _ _ _=>none) (fun _ _=>none) (fun _ _=>none) (none) () (fun _ _ _ _=>()) v
def V.asSl (v:V):SL :=
 V.rec (motive_1:=fun _=>SL) (motive_2:=fun _=>Unit) (fun _=>SL.no) (fun _ _=>SL.no) (fun _=>SL.no) (SL.no) (SL.no) (fun xs _ _=>SL.lst xs) (fun b ver off len _=>SL.ref b ver off len) (SL.no) (fun _ _ _=>SL.no) (fun _ _ _ _=>SL.no) (fun _ _=>SL.no) (SL.no) (fun _=>SL.no) (SL.no) (fun _ _ _=>SL.no) (SL.no) (fun _ _ _=>SL.no) (fun _ _=>SL.no) (fun _ _=>SL.no) (SL.no) () (fun _ _ _ _=>()) v
def V.asP (v:V):SP :=
 V.rec (motive_1:=fun _=>SP) (motive_2:=fun _=>Unit) (fun _=>SP.no) (fun _ _=>SP.no) (fun _=>SP.no) (SP.no) (SP.no) (fun _ _ _=>SP.no) (fun _ _ _ _ _=>SP.no) (SP.no) (fun b ver off=>SP.ptr b ver off) (fun xs i j _=>SP.eptr xs i j) (fun g off=>SP.gptr g off) (SP.no) (fun _=>SP.no) (SP.no) (fun _ _ _=>SP.no) (SP.no) (fun _ _ _=>SP.no) (fun _ _=>SP.no) (fun _ _=>SP.no) (SP.no) () (fun _ _ _ _=>()) v
def V.asA (v:V):Option (List V) :=
 V.rec (motive_1:=fun _=>Option (List V)) (motive_2:=fun _=>Unit) (fun _=>none) (fun _ _=>none) (fun _=>none) (none) (none) (fun _ _ _=>none) (fun _ _ _ _ _=>none) (none) (fun _ _ _=>none) (fun _ _ _ _=>none) (fun _ _=>none) (none) (fun _=>none) (none) (fun _ _ _=>none) (none) (fun _ _ _=>none) (fun cs _=>some cs) (fun _ _=>none) (none) () (fun _ _ _ _=>()) v
def V.asT (v:V):Option (List V) :=
 V.rec (motive_1:=fun _=>Option (List V)) (motive_2:=fun _=>Unit) (fun _=>none) (fun _ _=>none) (fun _=>none) (none) (none) (fun _ _ _=>none) (fun _ _ _ _ _=>none) (none) (fun _ _ _=>none) (fun _ _ _ _=>none) (fun _ _=>none) (none) (fun _=>none) (none) (fun _ _ _=>none) (none) (fun _ _ _=>none) (fun _ _=>none) (fun vs _=>some vs) (none) () (fun _ _ _ _=>()) v
def V.isOne (v:V):Bool :=
 V.rec (motive_1:=fun _=>Bool) (motive_2:=fun _=>Unit) (fun _=>true) (fun _ _=>true) (fun _=>true) (true) (true) (fun _ _ _=>true) (fun _ _ _ _ _=>true) (true) (fun _ _ _=>true) (fun _ _ _ _=>true) (fun _ _=>true) (true) (fun _=>true) (true) (fun _ _ _=>true) (true) (fun _ _ _=>true) (fun _ _=>false) (fun _ _=>false) (true) () (fun _ _ _ _=>()) v
def V.isNilP (v:V):Option Bool :=
 V.rec (motive_1:=fun _=>Option Bool) (motive_2:=fun _=>Unit) (fun _=>none) (fun _ _=>none) (fun _=>none) (none) (none) (fun _ _ _=>none) (fun _ _ _ _ _=>none) (some true) (fun _ _ _=>some false) (fun _ _ _ _=>some false) (fun _ _=>some false) (none) (fun _=>none) (none) (fun _ _ _=>none) (none) (fun _ _ _=>none) (fun _ _=>none) (fun _ _=>none) (none) () (fun _ _ _ _=>()) v
def V.isNilI (v:V):Option Bool :=
 V.rec (motive_1:=fun _=>Option Bool) (motive_2:=fun _=>Unit) (fun _=>none) (fun _ _=>none) (fun _=>none) (none) (none) (fun _ _ _=>none) (fun _ _ _ _ _=>none) (none) (fun _ _ _=>none) (fun _ _ _ _=>none) (fun _ _=>none) (none) (fun _=>none) (none) (fun _ _ _=>none) (some true) (fun _ _ _=>some false) (fun _ _=>none) (fun _ _=>none) (none) () (fun _ _ _ _=>()) v
def V.isAdr (v:V):Bool :=
 V.rec (motive_1:=fun _=>Bool) (motive_2:=fun _=>Unit) (fun _=>false) (fun _ _=>false) (fun _=>false) (false) (false) (fun _ _ _=>false) (fun _ _ _ _ _=>false) (false) (fun _ _ _=>true) (fun _ _ _ _=>true) (fun _ _=>true) (false) (fun _=>false) (false) (fun _ _ _=>true) (false) (fun _ _ _=>false) (fun _ _=>false) (fun _ _=>false) (false) () (fun _ _ _ _=>()) v
def V.cellsF (v:V):List V :=
 V.rec (motive_1:=fun _=>List V) (motive_2:=fun _=>Unit) (fun _=>[v]) (fun _ _=>[v]) (fun _=>[v]) ([v]) ([v]) (fun _ _ _=>[v]) (fun _ _ _ _ _=>[v]) ([v]) (fun _ _ _=>[v]) (fun _ _ _ _=>[v]) (fun _ _=>[v]) ([v]) (fun _=>[v]) ([v]) (fun _ _ _=>[v]) ([v]) (fun _ _ _=>[v]) (fun cs _=>cs) (fun _ _=>[v]) ([v]) () (fun _ _ _ _=>()) v
theorem V.zP {v:V} {n:Int} (h:v.asI64=some n):v=.int .i64 n:=by
 cases v<;>first | cases h | (rename_i k m;cases k<;>cases h;rfl)
theorem V.zO {v:V} {n:Int} (h:v.asI32=some n):v=.int .i32 n:=by
 cases v<;>first | cases h | (rename_i k m;cases k<;>cases h;rfl)
theorem V.zZ {v:V} {n:Int} (h:v.asU8=some n):v=.int .u8 n:=by
 cases v<;>first | cases h | (rename_i k m;cases k<;>cases h;rfl)
theorem V.zX {v:V} {n:Int} (h:v.asU32=some n):v=.int .u32 n:=by
 cases v<;>first | cases h | (rename_i k m;cases k<;>cases h;rfl)
theorem V.zY {v:V} {n:Int} (h:v.asU64=some n):v=.int .u64 n:=by
 cases v<;>first | cases h | (rename_i k m;cases k<;>cases h;rfl)
theorem V.zL {v:V} {n:Int} (h:v.asAI=some n): ∃ k,v=.int k n:=by
 cases v<;>cases h
 exact ⟨_,rfl⟩
theorem V.zN {v:V} {b:Bool} (h:v.asB=some b):v=.bool b:=by
 cases v<;>cases h
 rfl
theorem V.zT {v:V} {s:List UInt8} (h:v.asS=some s):v=.str s:=by
 cases v<;>cases h
 rfl
theorem V.zM {v:V} {s:List V} (h:v.asA=some s):v=.agg s:=by
 cases v<;>cases h
 rfl
theorem V.zW {v:V} {s:List V} (h:v.asT=some s):v=.tup s:=by
 cases v<;>cases h
 rfl
theorem V.zAH (v:V):v.isOne=v.one:=by cases v<;>rfl
theorem V.zAB (v:V):v.cellsF=v.cells:=by cases v<;>rfl
end
end SS
namespace SS
open Go
noncomputable section
inductive TV where
 | vv (x:V) (one:Bool)
 | ii (k:IntKind) (n:Int)
 | bb (x:Bool)
 | ss (l:List UInt8)
 | aa (cs:List V)
def TV.toV:TV→V
 | .vv x _=>x
 | .ii k n=>.int k n
 | .bb x=>.bool x
 | .ss l=>.str l
 | .aa cs=>.agg cs
def TV.isOne:TV→Bool
 | .vv _ o=>o
 | .aa _=>false
 | _=>true
def TV.ok:TV→Prop
 | .vv x o=>o=true→x.one=true
 | .aa cs=>BM cs=true
 | _=>True
def TV.of:V→TV
 | .int k n=>.ii k n
 | .bool b=>.bb b
 | .str l=>.ss l
 | .agg cs=>bC (BM cs) (.aa cs) (.vv (.agg cs) false)
 | v=>.vv v v.one
def TV.of1:V→TV
 | .int k n=>.ii k n
 | .bool b=>.bb b
 | .str l=>.ss l
 | v=>.vv v true
abbrev SF:=PT TV
abbrev sev (fr:SF):Operand→Option TV
 | .tmp t=>fr.getF t
 | .const v=>match Km v with
  | some v=>some (TV.of v)
  | none=>none
 | .global g=>some (.vv (.gptr g 0) true)
 | .func f=>some (.vv (.fn f []) true)
abbrev upd (fr:SF):Operand→TV→SF
 | .tmp t,tv=>fr.setR t tv
 | _,_=>fr
section
variable {R:Type}
def AB (v:V) (K:Int→Option R):Option R:=oK v.asI64 K
def PB (v:V) (K:Int→Option R):Option R:=oK v.asI32 K
def u8K (v:V) (K:Int→Option R):Option R:=oK v.asU8 K
def Qi (v:V) (K:Int→Option R):Option R:=oK v.asU32 K
def H6 (v:V) (K:Int→Option R):Option R:=oK v.asU64 K
def aiK (v:V) (K:Int→Option R):Option R:=oK v.asAI K
def boK (v:V) (K:Bool→Option R):Option R:=oK v.asB K
def stK (v:V) (K:List UInt8→Option R):Option R:=oK v.asS K
def agK (v:V) (K:List V→Option R):Option R:=oK v.asA K
def tuK (v:V) (i:Nat) (K:V→Option R):Option R:=oK v.asT fun vs=>oK (DW vs i) K
def onK (v:V) (X:Option R):Option R:=gd v.isOne X
abbrev unI (k:IntKind) (v:V) (K:Int→Option R):Option R :=
 match k with
 | .i64=>AB v K
 | .i32=>PB v K
 | .u8=>u8K v K
 | .u32=>Qi v K
 | .u64=>H6 v K
 | _=>none
abbrev Dc (k:IntKind) (fr:SF) (x:Operand) (K:SF→Int→Option R):Option R :=
 match sev fr x with
 | some (.ii k' n)=>bC (DU k k') (K fr n) (none)
 | some (.vv v _)=>unI k v fun n=>K (upd fr x (.ii k n)) n
 | _=>none
abbrev Gn (fr:SF) (x:Operand) (K:Int→Option R):Option R :=
 match sev fr x with
 | some (.ii _ n)=>K n
 | some (.vv v _)=>aiK v K
 | _=>none
abbrev Er (fr:SF) (x:Operand) (K:SF→Bool→Option R):Option R :=
 match sev fr x with
 | some (.bb n)=>K fr n
 | some (.vv v _)=>boK v fun n=>K (upd fr x (.bb n)) n
 | _=>none
abbrev GM (fr:SF) (x:Operand) (K:SF→List UInt8→Option R):Option R :=
 match sev fr x with
 | some (.ss n)=>K fr n
 | some (.vv v _)=>stK v fun n=>K (upd fr x (.ss n)) n
 | _=>none
abbrev Ba (fr:SF) (x:Operand) (K:V→Option R):Option R :=
 match sev fr x with
 | some tv=>K tv.toV
 | none=>none
abbrev J2 (fr:SF) (x:Operand) (K:SF→TV→Option R):Option R :=
 match sev fr x with
 | some tv=>bC (tv.isOne) (K fr tv) ((match tv with
  | .vv v _=>onK v (K (upd fr x (.vv v true)) (.vv v true))
  | _=>none))
 | none=>none
abbrev I8 (fr:SF):List Operand→(List V→Option R)→Option R
 | [],K=>K []
 | x :: r,K=>Ba fr x fun v=>I8 fr r fun vs=>K (v :: vs)
def wrI (k:IntKind) (x:Int) (K:Int→R):R:=iK (k.wrap x) K
def Aa (mx:Nat) (k:IntKind) (x y:Int) (K:Int→R):R :=
 Int.rec (fun a=>Int.rec (fun b=>Bool.rec (wrI k (x+y) K) (fN (Nat.add a b) fun m=>K (.ofNat m)) (Nat.ble (Nat.add a b) mx)) (fun b=>Bool.rec (wrI k (x+y) K) (Bool.rec (wrI k (x+y) K) (fN (Nat.sub a (Nat.succ b)) fun m=>K (.ofNat m)) (Nat.ble a mx)) (Nat.ble (Nat.succ b) a)) y) (fun _=>wrI k (x+y) K) x
def CO (mx:Nat) (k:IntKind) (x y:Int) (K:Int→R):R :=
 Int.rec (fun a=>Int.rec (fun b=>Bool.rec (wrI k (x - y) K) (Bool.rec (wrI k (x - y) K) (fN (Nat.sub a b) fun m=>K (.ofNat m)) (Nat.ble a mx)) (Nat.ble b a)) (fun _=>wrI k (x - y) K) y) (fun _=>wrI k (x - y) K) x
def Fv (mx:Nat) (k:IntKind) (x y:Int) (K:Int→R):R :=
 Int.rec (fun a=>Int.rec (fun b=>Bool.rec (wrI k (x*y) K) (fN (Nat.mul a b) fun m=>K (.ofNat m)) (Nat.ble (Nat.mul a b) mx)) (fun _=>wrI k (x*y) K) y) (fun _=>wrI k (x*y) K) x
def cvI (mx:Nat) (k:IntKind) (x:Int) (K:Int→R):R :=
 Int.rec (fun a=>Bool.rec (wrI k x K) (fN a fun m=>K (.ofNat m)) (Nat.ble a mx)) (fun _=>wrI k x K) x
def Cj (mx:Nat) (k:IntKind) (x y:Int) (K:Int→Option R):Option R :=
 Int.rec (fun a=>Int.rec (fun b=>Nat.rec none (fun p _=>Bool.rec (wrI k (x.tdiv y) K) (fN (Nat.div a (Nat.succ p)) fun m=>K (.ofNat m)) (Nat.ble a mx)) b) (fun _=>wrI k (x.tdiv y) K) y) (fun _=>bK (Int.beq' y 0) none (wrI k (x.tdiv y) K)) x
def DZ (x y:Int) (K:Int→Option R):Option R :=
 Int.rec (fun a=>Int.rec (fun b=>Nat.rec none (fun p _=>fN (Nat.mod a (Nat.succ p)) fun m=>K (.ofNat m)) b) (fun _=>iK (x.tmod y) K) y) (fun _=>bK (Int.beq' y 0) none (iK (x.tmod y) K)) x
def ioK (op:BinOp) (k:IntKind) (x y:Int) (K:V→Option R):Option R:=oK (Fs op k x y) K
def shK (op:BinOp) (k:IntKind) (x y:Int) (K:V→Option R):Option R:=oK (Mq op k x y) K
end
def ltI (x y:Int):Bool:=Int.rec (fun a=>Int.rec (fun b=>Nat.ble (Nat.succ a) b) (fun _=>false) y) (fun a=>Int.rec (fun _=>true) (fun b=>Nat.ble (Nat.succ b) a) y) x
def leI (x y:Int):Bool:=Int.rec (fun a=>Int.rec (fun b=>Nat.ble a b) (fun _=>false) y) (fun a=>Int.rec (fun _=>true) (fun b=>Nat.ble b a) y) x
def eqI (x y:Int):Bool:=Int.rec (fun a=>Int.rec (fun b=>Nat.beq a b) (fun _=>false) y) (fun a=>Int.rec (fun _=>false) (fun b=>Nat.beq a b) y) x
def ntB (b:Bool):Bool:=Bool.rec true false b
def eqB (a b:Bool):Bool:=Bool.rec (ntB b) b a
abbrev EO:IntKind→Nat
 | .i8=>127 | .i16=>32767 | .i32=>2147483647 | .i64=>9223372036854775807
 | .u8=>255 | .u16=>65535 | .u32=>4294967295 | .u64=>18446744073709551615
def eqS (l m:List UInt8):Bool :=
 List.rec (motive:=fun _=>List UInt8→Bool) (fun m=>List.rec true (fun _ _ _=>false) m) (fun a _ ih m=>List.rec false (fun b u _=>Bool.rec false (ih u) (Nat.beq a.toNat b.toNat)) m) l m
section
variable {R:Type}
def Ai (l m:List UInt8) (K:List UInt8→Option R):Option R:=gd (Nat.ble (Nat.add (BN l) (BN m)) 9223372036854775807) (K (GU l m))
def Cs (l:List UInt8) (i:Int) (K:Int→Option R):Option R:=Int.rec (fun n=>oK (DW l n) fun b=>fN b.toNat fun m=>K (.ofNat m)) (fun _=>none) i
def lnS (l:List UInt8) (K:Int→R):R:=fN (BN l) fun n=>K (.ofNat n)
def slS (s:List UInt8) (l h:Nat) (K:List UInt8→Option R):Option R:=gd (Nat.ble l h) (gd (Nat.ble h (BN s)) (K (CZ (EF s l) (Nat.sub h l))))
def Bt (i:Int) (K:Nat→Option R):Option R:=Int.rec K (fun _=>none) i
def lnK (v:V) (K:Int→Option R):Option R:=oK v.asLen fun n=>fN n fun m=>K (.ofNat m)
def bk1 (σ:St) (b ver off:Nat) (K:V→Option R):Option R :=
 oK (σ.getF b) fun o=>AO.rec (fun cs _ ver' _=>gd (Nat.beq ver ver') (oK (DW cs off) fun v=>gd v.isOne (K v))) (fun _ _=>none) o
def bkN (σ:St) (n b ver off:Nat) (K:V→Option R):Option R :=
 oK (σ.getF b) fun o=>AO.rec (fun cs _ ver' _=>gd (Nat.beq ver ver') ((fun r=>gd (Nat.beq (BN r) n) (K (.agg r))) (CZ (EF cs off) n))) (fun _ _=>none) o
def el1 (x:V) (off:Nat) (K:V→Option R):Option R:=oK (DW x.cellsF off) fun v=>gd v.isOne (K v)
def elN (x:V) (n off:Nat) (K:V→Option R):Option R:=(fun r=>gd (Nat.beq (BN r) n) (K (.agg r))) (CZ (EF x.cellsF off) n)
def ld1 (E:Env) (x:V) (off:Nat) (σ:St) (K:V→Option R):Option R :=
 SP.rec none (fun b ver o=>bk1 σ b ver (Nat.add o off) K) (fun xs i j=>oK (DW xs i) fun e=>el1 e (Nat.add j off) K) (fun g o=>oK (E.G g) fun cs=>oK (DW cs (Nat.add o off)) fun v=>gd v.isOne (K v)) x.asP
def ldN (E:Env) (n:Nat) (x:V) (off:Nat) (σ:St) (K:V→Option R):Option R :=
 SP.rec none (fun b ver o=>bkN σ n b ver (Nat.add o off) K) (fun xs i j=>oK (DW xs i) fun e=>elN e n (Nat.add j off) K) (fun g o=>oK (E.G g) fun cs=>(fun r=>gd (Nat.beq (BN r) n) (K (.agg r))) (CZ (EF cs (Nat.add o off)) n)) x.asP
def Ab (sz:Nat) (x:V) (i:Int) (off:Nat) (σ:St) (K:V→Option R):Option R :=
 Bt i fun n=>SL.rec none (fun xs=>oK (DW xs n) fun e=>gd (Nat.beq (BN e.cellsF) sz) (el1 e off K)) (fun b ver o len=>gd (Nat.ble (Nat.succ n) len) (bk1 σ b ver (Nat.add o (Nat.add (Nat.mul n sz) off)) K)) x.asSl
def Bo (sz n:Nat) (x:V) (i:Int) (off:Nat) (σ:St) (K:V→Option R):Option R :=
 Bt i fun m=>SL.rec none (fun xs=>oK (DW xs m) fun e=>gd (Nat.beq (BN e.cellsF) sz) (elN e n off K)) (fun b ver o len=>gd (Nat.ble (Nat.succ m) len) (bkN σ n b ver (Nat.add o (Nat.add (Nat.mul m sz) off)) K)) x.asSl
def bs1 (σ:St) (b ver off:Nat) (v:V) (K:St→Option R):Option R :=
 oK (σ.getF b) fun o=>AO.rec (fun cs ty ver' fz=>Bool.rec (gd (Nat.beq ver ver') (gd (Nat.ble (Nat.succ off) (BN cs)) (σ.putK b (.blk (K7 cs off v) ty ver' false) K))) none fz) (fun _ _=>none) o
def st1 (x:V) (off:Nat) (v:V) (σ:St) (K:St→Option R):Option R :=
 SP.rec none (fun b ver o=>bs1 σ b ver (Nat.add o off) v K) (fun _ _ _=>none) (fun _ _=>none) x.asP
def Ju (sz:Nat) (x:V) (i:Int) (off:Nat) (v:V) (σ:St) (K:St→Option R):Option R :=
 Bt i fun n=>SL.rec none (fun _=>none) (fun b ver o len=>gd (Nat.ble (Nat.succ n) len) (bs1 σ b ver (Nat.add o (Nat.add (Nat.mul n sz) off)) v K)) x.asSl
def nX (x:V) (X:Option R):Option R:=gd x.isAdr X
def ptK (x:V) (K:Bool→Option R):Option R:=oK x.isNilP K
def ifK (x:V) (K:Bool→Option R):Option R:=oK x.isNilI K
def f1K (x:V) (off:Nat) (K:V→Option R):Option R:=oK x.asA fun cs=>oK (DW cs off) fun v=>gd v.isOne (K v)
def fNK (x:V) (n off:Nat) (K:V→Option R):Option R:=oK x.asA fun cs=>(fun r=>gd (Nat.beq (BN r) n) (K (.agg r))) (CZ (EF cs off) n)
end
end
end SS
namespace SS
open Go
noncomputable section
inductive SA where
 | no
 | nil
 | lst (xs:List V)
 | ref (b ver off len:Nat) (cap:Option Nat)
def V.asSA (v:V):SA :=
 V.rec (motive_1:=fun _=>SA) (motive_2:=fun _=>Unit) (fun _=>SA.no) (fun _ _=>SA.no) (fun _=>SA.no) (SA.nil) (SA.no) (fun xs full _=>Bool.rec SA.no (SA.lst xs) full) (fun b ver off len cap=>SA.ref b ver off len cap) (SA.no) (fun _ _ _=>SA.no) (fun _ _ _ _=>SA.no) (fun _ _=>SA.no) (SA.no) (fun _=>SA.no) (SA.no) (fun _ _ _=>SA.no) (SA.no) (fun _ _ _=>SA.no) (fun _ _=>SA.no) (fun _ _=>SA.no) (SA.no) () (fun _ _ _ _=>()) v
section
variable {R:Type}
def Ko (cs:List V) (off m:Nat):List V:=Nat.rec (bK (Nat.beq (BN cs) m) cs (CZ cs m)) (fun p _=>CZ (EF cs (Nat.succ p)) m) off
def QB (xs:List V) (l:Nat):List V:=List.rec [] (fun x _ ih=>GU x.cellsF ih) (CZ xs l)
def BQ (elem sz:Nat) (n:Nat) (new:List V) (s:V) (σ:St) (K:V→St→Option R):Option R :=
 oK s.asLen fun l=>fN (Nat.add l n) fun need=>gd (Nat.ble need 4294967296)
  (SA.rec none
    (σ.newK (.blk new elem 0 false) fun b σ'=>K (.ref b 0 0 need none) σ')
    (fun xs=>(fun r=>gd (Nat.beq (BN r) (Nat.mul l sz)) (σ.newK (.blk (GU r new) elem 0 false) fun b σ'=>K (.ref b 0 0 need none) σ')) (QB xs l))
    (fun b ver off _ cap=>oK (σ.getF b) fun o=>AO.rec (fun cs ty ver' fz=>Bool.rec (gd (Nat.beq ver ver')
      (Option.rec
        (gd (Nat.beq ty elem) (bK (Nat.ble (Nat.add off (Nat.mul need sz)) (BN cs))
          (oK (CX cs (Nat.add off (Nat.mul l sz)) new) fun cs'=>σ.putK b (.blk cs' ty ver false) fun σ'=>K (.ref b ver off need none) σ')
          (gd (Nat.ble (Nat.add off (Nat.mul l sz)) (BN cs)) (fN (Nat.succ ver) fun ver2=>σ.putK b (.blk (GU (Ko cs off (Nat.mul l sz)) new) ty ver2 false) fun σ'=>K (.ref b ver2 0 need none) σ'))))
        (fun c=>bK (Nat.ble need c)
          (oK (CX cs (Nat.add off (Nat.mul l sz)) new) fun cs'=>σ.putK b (.blk cs' ty ver false) fun σ'=>K (.ref b ver off need cap) σ')
          (gd (Nat.ble (Nat.add off (Nat.mul l sz)) (BN cs)) (σ.newK (.blk (GU (CZ (EF cs off) (Nat.mul l sz)) new) elem 0 false) fun nb σ'=>K (.ref nb 0 0 need none) σ')))
        cap)) none fz) (fun _ _=>none) o)
    s.asSA)
end
end
end SS
namespace SS
open Go
noncomputable section
section
variable {R:Type}
abbrev Kt (R:Type):=SF→TV→St→Option R
abbrev Kq (fr:SF):Option Operand→(SF→Option V→Option R)→Option R
 | none,K=>K fr none
 | some x,K=>Ba fr x fun v=>K fr (some v)
def Lc (op:BinOp) (k:IntKind) (x y:Int) (K:TV→Option R):Option R :=
 match op with
 | .add=>Aa (EO k) k x y fun n=>K (.ii k n)
 | .sub=>CO (EO k) k x y fun n=>K (.ii k n)
 | .mul=>Fv (EO k) k x y fun n=>K (.ii k n)
 | .quo=>Cj (EO k) k x y fun n=>K (.ii k n)
 | .rem=>DZ x y fun n=>K (.ii k n)
 | .eql=>K (.bb (eqI x y))
 | .neq=>K (.bb (ntB (eqI x y)))
 | .lss=>K (.bb (ltI x y))
 | .leq=>K (.bb (leI x y))
 | .gtr=>K (.bb (ltI y x))
 | .geq=>K (.bb (leI y x))
 | op=>ioK op k x y fun v=>K (.vv v false)
def QS (op:BinOp) (x y:List UInt8) (K:TV→Option R):Option R :=
 match op with
 | .add=>Ai x y fun l=>K (.ss l)
 | .eql=>K (.bb (eqS x y))
 | .neq=>K (.bb (ntB (eqS x y)))
 | op=>oK (K9 op x y) fun v=>K (.vv v false)
def PO:Operand→Bool
 | .const (.pointer none)=>true
 | _=>false
def isNilI:Operand→Bool
 | .const .nilIface=>true
 | _=>false
def KV (E:Env) (op:BinOp) (t:TypeId) (fr:SF) (x y:Operand) (σ:St) (K:Kt R):Option R :=
 Ba fr x fun a=>Ba fr y fun b=>oK (Cn E op t x y a b σ) fun v=>K fr (.vv v false) σ
def Nx (E:Env) (op:BinOp) (t:TypeId) (fr:SF) (x y:Operand) (yt:TypeId) (σ:St) (K:Kt R):Option R :=
 match E.P.underlying t with
 | some (.int k) =>
  match op with
  | .shl | .shr=>match E.P.underlying yt with
   | some (.int k')=>Dc k fr x fun fr a=>Dc k' fr y fun fr b=>shK op k a b fun v=>K fr (.vv v false) σ
   | _=>none
  | _=>Dc k fr x fun fr a=>Dc k fr y fun fr b=>Lc op k a b fun v=>K fr v σ
 | some .string=>GM fr x fun fr a=>GM fr y fun fr b=>QS op a b fun v=>K fr v σ
 | some .bool=>match op with
  | .eql=>Er fr x fun fr a=>Er fr y fun fr b=>K fr (.bb (eqB a b)) σ
  | .neq=>Er fr x fun fr a=>Er fr y fun fr b=>K fr (.bb (ntB (eqB a b))) σ
  | _=>none
 | some (.pointer _)=>bC (PO y) ((match op with
  | .eql=>Ba fr x fun a=>ptK a fun b=>K fr (.bb b) σ
  | .neq=>Ba fr x fun a=>ptK a fun b=>K fr (.bb (ntB b)) σ
  | _=>none)) (KV E op t fr x y σ K)
 | some (.interface _)=>bC (isNilI y) ((match op with
  | .eql=>Ba fr x fun a=>ifK a fun b=>K fr (.bb b) σ
  | .neq=>Ba fr x fun a=>ifK a fun b=>K fr (.bb (ntB b)) σ
  | _=>none)) (KV E op t fr x y σ K)
 | _=>KV E op t fr x y σ K
abbrev Kv (fr:SF):List (Nat×Operand)→(SF→List (Nat×TV)→Option R)→Option R
 | [],K=>K fr []
 | (i,x) :: r,K=>J2 fr x fun fr v=>Kv fr r fun fr l=>K fr ((i,v) :: l)
def Ml (place:Nat→Nat):List (Nat×TV)→List V→List V
 | [],cs=>cs
 | (i,v) :: r,cs=>Ml place r (cs.set (place i) v.toV)
def U3 (P:Program) (fs:Array Field) (n:Nat) (ps:List (Nat×Operand)):Bool :=
 ps.all fun p=>match fs[p.1]? with
  | some f=>(match P.info? f.type with | some i=>Nat.beq i.size 1 | none=>false)&&Nat.blt f.offset n
  | none=>false
def MU (fs:Array Field) (i:Nat):Nat:=match fs[i]? with | some f=>f.offset | none=>0
abbrev Jk (fr:SF):List (Nat×Operand)→(List (Nat×V)→Option R)→Option R
 | [],K=>K []
 | (i,x) :: r,K=>Ba fr x fun v=>Jk fr r fun l=>K ((i,v) :: l)
def N0 (E:Env) (t:TypeId) (ps:List (Nat×Operand)) (fr:SF) (σ:St) (K:Kt R):Option R :=
 match Cm E.P t,E.P.underlying t with
 | some (.agg z),some (.struct fs) =>
  bC (U3 E.P fs z.length ps&&(Hy E.P fs.toList).isSome&&BM z) (Kv fr ps fun fr l=>K fr (.aa (Ml (MU fs) l z)) σ) (Jk fr ps fun l=>oK (CD E t l) fun v=>K fr (.vv v false) σ)
 | _,_=>Jk fr ps fun l=>oK (CD E t l) fun v=>K fr (.vv v false) σ
def Pc (E:Env) (t:TypeId) (fr:SF) (a:Operand) (σ:St) (K:Kt R):Option R :=
 match E.P.info? t,E.P.underlying t with
 | some i,some d=>Ba fr a fun p=>bC (Bc d) (ldN E i.size p 0 σ fun v=>K fr (.vv v false) σ) (ld1 E p 0 σ fun v=>K fr (.vv v true) σ)
 | _,_=>none
def Db:TV:=.vv (.tup []) false
def QQ (E:Env) (t:TypeId) (fr:SF) (a x:Operand) (σ:St) (K:Kt R):Option R :=
 match E.P.info? t,E.P.underlying t with
 | some i,some d=>Ba fr a fun p =>
  bC (Bc d||!Nat.beq i.size 1) (Ba fr x fun v=>oK (storeAt E t p v σ) fun σ'=>K fr Db σ') (J2 fr x fun fr v=>st1 p 0 v.toV σ fun σ'=>K fr Db σ')
 | _,_=>none
def TN (E:Env) (s:TypeId) (fr:SF) (x:Operand) (f:Nat) (σ:St) (K:Kt R):Option R :=
 Ba fr x fun p=>oK (fieldAt E s p f) fun v=>K fr (.vv v true) σ
def Oq (E:Env) (s:TypeId) (fr:SF) (x:Operand) (f:Nat) (σ:St) (K:Kt R):Option R :=
 match E.P.underlying s with
 | some (.struct fs)=>match fs[f]? with
  | some fd=>match E.P.info? fd.type,E.P.underlying fd.type with
   | some i,some d=>match sev fr x with
    | some (.aa cs)=>bC (Bc d) ((match Ez E s (.agg cs) f with | some v=>K fr (.vv v false) σ | none=>none)) ((match cs[fd.offset]? with | some v=>K fr (.of1 v) σ | none=>none))
    | some (.vv v _)=>bC (Bc d) (fNK v i.size fd.offset fun v=>K fr (.vv v false) σ) (f1K v fd.offset fun v=>K fr (.vv v true) σ)
    | _=>none
   | _,_=>none
  | none=>none
 | _=>none
def PH (E:Env) (t:TypeId) (fr:SF) (x i:Operand) (σ:St) (K:Kt R):Option R :=
 match E.P.underlying t with
 | some .string=>GM fr x fun fr l=>Gn fr i fun n=>Cs l n fun b=>K fr (.ii .u8 b) σ
 | _=>Ba fr x fun v=>Ba fr i fun n=>oK (C5 E t v n) fun v=>K fr (.vv v false) σ
def QK (E:Env) (t:TypeId) (fr:SF) (x:Operand) (lo hi mx:Option Operand) (σ:St) (K:Kt R):Option R :=
 match E.P.underlying t,lo,hi,mx with
 | some .string,none,some h,none=>GM fr x fun fr s=>Gn fr h fun h=>Bt h fun h=>slS s 0 h fun l=>K fr (.ss l) σ
 | some .string,some l,none,none=>GM fr x fun fr s=>Gn fr l fun l=>Bt l fun l=>slS s l (BN s) fun l=>K fr (.ss l) σ
 | some .string,some l,some h,none=>GM fr x fun fr s=>Gn fr l fun l=>Gn fr h fun h=>Bt l fun l=>Bt h fun h=>slS s l h fun l=>K fr (.ss l) σ
 | _,_,_,_=>Ba fr x fun v=>Kq fr lo fun fr l=>Kq fr hi fun fr h=>Kq fr mx fun fr m=>oK (sliceAt E t v l h m σ) fun v=>K fr (.vv v true) σ
def opS (E:Env) (fr:SF) (o:Op) (σ:St) (K:Kt R):Option R :=
 match o with
 | .move x | .assign x=>match sev fr x with
  | some v=>K fr v σ
  | none=>none
 | .pick c a b=>Er fr c fun fr c=>match sev fr a,sev fr b with
  | some (.bb p),some (.bb q)=>K fr (.bb (bK c p q)) σ
  | some (.ii k p),some (.ii k' q)=>bC (DU k k') (K fr (.ii k (bK c p q)) σ) (none)
  | some p,some (.vv (.tup []) false)=>bC c (K fr p σ) (K fr Db σ)
  | some (.vv (.tup []) false),some q=>bC c (K fr Db σ) (K fr q σ)
  | some p,some q=>K fr (.vv (bK c p.toV q.toV) (p.isOne&&q.isOne)) σ
  | _,_=>none
 | .alloc t=>match Cm E.P t with
  | some z=>σ.newK (.blk z.cells t 0 false) fun b σ'=>K fr (.vv (.ptr b 0 0) true) σ'
  | none=>none
 | .box t x=>match sev fr x with
  | some v=>σ.newK (.blk (bC (v.isOne) ([v.toV]) (v.toV.cellsF)) t 0 false) fun b σ'=>K fr (.vv (.ptr b 0 0) true) σ'
  | none=>none
 | .build t ps=>N0 E t ps.toList fr σ K
 | .buildSlice t len ps=>Jk fr ps.toList fun l=>pK (Cb E t len l σ) fun v σ'=>K fr (.vv v true) σ'
 | .load t a=>Pc E t fr a σ K
 | .store t a x=>QQ E t fr a x σ K
 | .nilCheck x=>Ba fr x fun v=>nX v (K fr (.vv v true) σ)
 | .binOp op t x y yt=>Nx E op t fr x y yt σ K
 | .unOp .not _ x=>Er fr x fun fr b=>K fr (.bb (ntB b)) σ
 | .unOp .neg t x=>match E.P.underlying t with
  | some (.int k)=>Dc k fr x fun fr n=>CO (EO k) k 0 n fun m=>K fr (.ii k m) σ
  | _=>none
 | .unOp op _ x=>Ba fr x fun v=>oK (unV op v) fun v=>K fr (.vv v false) σ
 | .convert s d x=>match E.P.underlying s,E.P.underlying d with
  | some (.int k),some (.int k')=>Dc k fr x fun fr n=>cvI (EO k') k' n fun m=>K fr (.ii k' m) σ
  | some .string,some .string=>GM fr x fun fr l=>K fr (.ss l) σ
  | _,_=>bC (E9 E s d) (Ba fr x fun v=>pK (Im E s d v σ) fun v σ'=>K fr (.vv v true) σ') (Ba fr x fun v=>oK (GX E s d v σ) fun v=>K fr (.vv v true) σ)
 | .makeInterface t x=>match E.P.underlying t with
  | some (.interface _) | none=>none
  | some _=>Ba fr x fun v=>K fr (.vv (.ifc t v) true) σ
 | .makeFunc (.func f) first cap=>bC (first.isEmpty) (I8 fr cap.toList fun vs=>K fr (.vv (.fn f vs) true) σ) (none)
 | .makeMap t none=>match E.P.underlying t with
  | some (.map ..)=>σ.newK (.map [] 0) fun b σ'=>K fr (.vv (.map b) true) σ'
  | _=>none
 | .makeMap t (some r)=>match E.P.underlying t with
  | some (.map ..)=>Dc .i64 fr r fun fr _=>σ.newK (.map [] 0) fun b σ'=>K fr (.vv (.map b) true) σ'
  | _=>none
 | .makeSlice t l c=>Dc .i64 fr l fun fr l=>Dc .i64 fr c fun fr c=>pK (Dk E t (.int .i64 l) (.int .i64 c) σ) fun v σ'=>K fr (.vv v true) σ'
 | .slice t x lo hi mx=>QK E t fr x lo hi mx σ K
 | .fieldAddr s x f=>TN E s fr x f σ K
 | .field s x f=>Oq E s fr x f σ K
 | .indexAddr t x i=>Ba fr x fun v=>Gn fr i fun n=>oK (indexAt E t v (.int .i64 n)) fun v=>K fr (.vv v true) σ
 | .index t x i=>PH E t fr x i σ K
 | .lookup t m k ok=>Ba fr m fun m=>Ba fr k fun k=>oK (Ij E t m k ok σ) fun v=>K fr (.vv v false) σ
 | .mapUpdate t m k x | .insert t m k x=>Ba fr m fun m=>Ba fr k fun k=>Ba fr x fun x=>oK (Il E t m k x σ) fun σ'=>K fr Db σ'
 | .mapEntry t m k=>Ba fr m fun m=>Ba fr k fun k=>pK (MI E t m k σ) fun v σ'=>K fr (.vv v false) σ'
 | .entryStore _ m s x=>Ba fr m fun m=>Ba fr s fun s=>Ba fr x fun x=>oK (Lp m s x σ) fun σ'=>K fr Db σ'
 | .extract t i=>Ba fr t fun t=>tuK t i fun v=>K fr (.vv v false) σ
 | _=>none
def N7 (E:Env) (b:Builtin) (ts:List TypeId) (xs:List Operand) (fr:SF) (σ:St) (K:Kt R):Option R :=
 match b,ts,xs with
 | .len,t :: _,[x]=>match E.P.underlying t with
  | some .string=>GM fr x fun fr l=>lnS l fun n=>K fr (.ii .i64 n) σ
  | some (.slice _)=>Ba fr x fun v=>lnK v fun n=>K fr (.ii .i64 n) σ
  | _=>Ba fr x fun v=>oK (Gc E t v σ) fun v=>K fr (.vv v true) σ
 | .min,t :: _,[x,y]=>match E.P.underlying t with
  | some (.int k)=>Dc k fr x fun fr a=>Dc k fr y fun fr b=>K fr (.ii k (bK (ltI b a) b a)) σ
  | _=>none
 | .max,t :: _,[x,y]=>match E.P.underlying t with
  | some (.int k)=>Dc k fr x fun fr a=>Dc k fr y fun fr b=>K fr (.ii k (bK (ltI a b) b a)) σ
  | _=>none
 | b,ts,xs=>I8 fr xs fun vs=>pK (Co E b ts vs σ) fun v σ'=>K fr (.vv v false) σ'
def JK (call:Call) (g:V) (vs:List V) (σ:St):Option (V×St) :=
 match g with
 | .fn f cap=>call f (vs++cap) σ
 | _=>none
def Le (E:Env) (call:Call) (pu:FuncId→Bool) (c:Go.Call) (fr:SF) (σ:St) (K:Kt R):Option R :=
 match c.callee with
 | .builtin b=>N7 E b c.argTypes.toList c.args.toList fr σ K
 | .value (.func f)=>I8 fr c.args.toList fun vs =>
  bC (pu f) (pK (call f vs σ) fun v _=>K fr (.vv v false) σ) (pK (call f vs σ) fun v σ'=>K fr (.vv v false) σ')
 | .value f=>Ba fr f fun g=>I8 fr c.args.toList fun vs=>pK (JK call g vs σ) fun v σ'=>K fr (.vv v false) σ'
 | .invoke ..=>none
end
end
end SS
namespace SS
open Go
structure Ap (fr:SF) (F:Fr):Prop where
 get: ∀ t tv,PT.get fr t=some tv→F.t.get t=some tv.toV∧tv.ok
section
variable {R:Type} {fr:SF} {F:Fr} {r:R} {E:Env} {σ:St}
theorem Ap.set (h:Ap fr F) {t:Nat} {tv:TV} (h1:F.t.get t=some tv.toV) (h2:tv.ok):Ap (fr.setR t tv) F:=⟨fun u tu hu=>by
 rw [PT.zAU,PT.get_set] at hu
 split at hu
 ·rename_i e;subst e;cases hu;exact ⟨h1,h2⟩
 ·exact h.get u tu hu⟩
theorem TV.of_toV (v:V):(TV.of v).toV=v:=by
 cases v<;>first | rfl | skip
 rename_i cs
 show (bC (BM cs) (TV.aa cs) (.vv (.agg cs) false)).toV=.agg cs
 cases BM cs<;>rfl
theorem TV.of_ok (v:V):(TV.of v).ok:=by
 cases v<;>first | trivial | (intro h;exact h) | skip
 rename_i cs
 show (bC (BM cs) (TV.aa cs) (.vv (.agg cs) false)).ok
 cases h:BM cs with
 | true=>exact h
 | false=>intro h;cases h
theorem TV.zAK (v:V):(TV.of1 v).toV=v:=by cases v<;>rfl
theorem TV.of1_ok {v:V} (h:v.one=true):(TV.of1 v).ok:=by cases v<;>first | trivial | (intro _;exact h)
theorem TV.zAO {tv:TV} (h:tv.ok) (h1:tv.isOne=true):tv.toV.one=true:=by
 cases tv with
 | vv x o=>exact h h1
 | aa cs=>cases h1
 | _=>rfl
theorem CL {x:Operand} {tv:TV} (hf:Ap fr F) (h:sev fr x=some tv):F.ev x=some tv.toV∧tv.ok:=by
 cases x with
 | tmp t=>exact hf.get t tv (by rw [←PT.getF_eq];exact h)
 | const v =>
  unfold sev at h
  simp only at h
  split at h
  ·rename_i v' hv
   cases h
   exact ⟨by rw [TV.of_toV];exact hv,TV.of_ok _⟩
  ·cases h
 | global g=>cases h;exact ⟨rfl,fun _=>rfl⟩
 | func f=>cases h;exact ⟨rfl,fun _=>rfl⟩
theorem NH {x:Operand} {tv:TV} (hf:Ap fr F) (h:F.ev x=some tv.toV) (ho:tv.ok):Ap (upd fr x tv) F:=by
 cases x with
 | tmp t=>exact hf.set h ho
 | _=>exact hf
theorem Bh {x:Operand} {K:V→Option R} (h:Ba fr x K=some r) (hf:Ap fr F): ∃ v,F.ev x=some v∧K v=some r:=by
 unfold Ba at h
 split at h
 ·rename_i tv ht;exact ⟨_,(CL hf ht).1,h⟩
 ·cases h
theorem vP {k:IntKind} {v:V} {K:Int→Option R} (h:unI k v K=some r): ∃ n,v=.int k n∧K n=some r:=by
 cases k<;>first | cases h | skip
 ·obtain ⟨n,h1,h2⟩:=BO h;exact ⟨n,V.zO h1,h2⟩
 ·obtain ⟨n,h1,h2⟩:=BO h;exact ⟨n,V.zP h1,h2⟩
 ·obtain ⟨n,h1,h2⟩:=BO h;exact ⟨n,V.zZ h1,h2⟩
 ·obtain ⟨n,h1,h2⟩:=BO h;exact ⟨n,V.zX h1,h2⟩
 ·obtain ⟨n,h1,h2⟩:=BO h;exact ⟨n,V.zY h1,h2⟩
theorem kEq {a b:IntKind} (h:DU a b=true):a=b:=by cases a<;>cases b<;>first | rfl | cases h
theorem Es {k:IntKind} {x:Operand} {K:SF→Int→Option R} (h:Dc k fr x K=some r) (hf:Ap fr F): ∃ fr' n,F.ev x=some (.int k n)∧Ap fr' F∧K fr' n=some r:=by
 unfold Dc at h
 split at h
 ·rename_i k' n ht
  cases hk:DU k k' with
  | true=>rw [hk] at h;have:=kEq hk;subst this;exact ⟨fr,n,(CL hf ht).1,hf,h⟩
  | false=>rw [hk] at h;cases h
 ·rename_i v o ht
  obtain ⟨n,rfl,h2⟩:=vP h
  exact ⟨_,n,(CL hf ht).1,NH (tv:=.ii k n) hf (CL hf ht).1 trivial,h2⟩
 ·cases h
theorem I7 {x:Operand} {K:Int→Option R} (h:Gn fr x K=some r) (hf:Ap fr F): ∃ k n,F.ev x=some (.int k n)∧K n=some r:=by
 unfold Gn at h
 split at h
 ·rename_i k n ht
  exact ⟨k,n,(CL hf ht).1,h⟩
 ·rename_i v o ht
  obtain ⟨n,h1,h2⟩:=BO h
  obtain ⟨k,rfl⟩:=V.zL h1
  exact ⟨k,n,(CL hf ht).1,h2⟩
 ·cases h
theorem FZ {x:Operand} {K:SF→Bool→Option R} (h:Er fr x K=some r) (hf:Ap fr F): ∃ fr' n,F.ev x=some (.bool n)∧Ap fr' F∧K fr' n=some r:=by
 unfold Er at h
 split at h
 ·rename_i n ht
  exact ⟨fr,n,(CL hf ht).1,hf,h⟩
 ·rename_i v o ht
  obtain ⟨n,h1,h2⟩:=BO h
  have:=V.zN h1;subst this
  exact ⟨_,n,(CL hf ht).1,NH (tv:=.bb n) hf (CL hf ht).1 trivial,h2⟩
 ·cases h
theorem H8 {x:Operand} {K:SF→List UInt8→Option R} (h:GM fr x K=some r) (hf:Ap fr F): ∃ fr' n,F.ev x=some (.str n)∧Ap fr' F∧K fr' n=some r:=by
 unfold GM at h
 split at h
 ·rename_i n ht
  exact ⟨fr,n,(CL hf ht).1,hf,h⟩
 ·rename_i v o ht
  obtain ⟨n,h1,h2⟩:=BO h
  have:=V.zT h1;subst this
  exact ⟨_,n,(CL hf ht).1,NH (tv:=.ss n) hf (CL hf ht).1 trivial,h2⟩
 ·cases h
theorem Qo {x:Operand} {K:SF→TV→Option R} (h:J2 fr x K=some r) (hf:Ap fr F): ∃ fr' tv,F.ev x=some tv.toV∧tv.toV.one=true∧Ap fr' F∧K fr' tv=some r:=by
 unfold J2 at h
 split at h
 ·rename_i tv ht
  obtain ⟨h1,h2⟩:=CL hf ht
  cases ho:tv.isOne with
  | true=>rw [ho] at h;exact ⟨fr,tv,h1,TV.zAO h2 ho,hf,h⟩
  | false =>
   rw [ho] at h
   simp only [bC] at h
   split at h
   ·rename_i v o
    obtain ⟨h3,h4⟩:=CG h
    rw [V.zAH] at h3
    exact ⟨_,.vv v true,h1,h3,NH (tv:=.vv v true) hf h1 (fun _=>h3),h4⟩
   ·cases h
 ·cases h
theorem LF: ∀ {xs:List Operand} {K:List V→Option R},I8 fr xs K=some r→Ap fr F→∃ vs,evs F.ev xs=some vs∧K vs=some r
 | [],K,h,_=>⟨[],rfl,h⟩
 | x :: xs,K,h,hf=>by
  obtain ⟨v,h1,h2⟩:=Bh (show Ba fr x _=some r from h) hf
  obtain ⟨vs,h3,h4⟩:=LF h2 hf
  exact ⟨v :: vs,by simp [evs,h1,h3],h4⟩
theorem Pw: ∀ {ps:List (Nat×Operand)} {K:List (Nat×V)→Option R},Jk fr ps K=some r→Ap fr F→∃ l,Dy F.ev ps=some l∧K l=some r
 | [],K,h,_=>⟨[],rfl,h⟩
 | (i,x) :: xs,K,h,hf=>by
  obtain ⟨v,h1,h2⟩:=Bh (show Ba fr x _=some r from h) hf
  obtain ⟨vs,h3,h4⟩:=Pw h2 hf
  exact ⟨(i,v) :: vs,by simp [Dy,h1,h3],h4⟩
theorem Pv: ∀ {ps:List (Nat×Operand)} {fr:SF} {K:SF→List (Nat×TV)→Option R},Kv fr ps K=some r→Ap fr F →
 ∃ fr' l,Dy F.ev ps=some (l.map fun p=>(p.1,p.2.toV))∧(∀ p∈l,p.2.toV.one=true)∧l.map (·.1)=ps.map (·.1)∧Ap fr' F∧K fr' l=some r
 | [],fr,K,h,hf=>⟨fr,[],rfl,(by simp),rfl,hf,h⟩
 | (i,x) :: xs,fr,K,h,hf=>by
  obtain ⟨fr1,tv,h1,h2,h3,h4⟩:=Qo (show J2 fr x _=some r from h) hf
  obtain ⟨fr2,l,h5,h6,h7,h8,h9⟩:=Pv h4 h3
  refine ⟨fr2,(i,tv) :: l,by simp [Dy,h1,h5],fun p hp=>?_,by simp [h7],h8,h9⟩
  rcases List.mem_cons.1 hp with rfl | hp
  ·exact h2
  ·exact h6 p hp
theorem Pp {x:Option Operand} {K:SF→Option V→Option R} (h:Kq fr x K=some r) (hf:Ap fr F): ∃ fr' v,Cu F.ev x=some v∧Ap fr' F∧K fr' v=some r:=by
 cases x with
 | none=>exact ⟨fr,none,rfl,hf,h⟩
 | some x =>
  unfold Kq at h
  obtain ⟨v,h1,h2⟩:=Bh h hf
  exact ⟨fr,some v,by simp [Cu,h1],hf,h2⟩
theorem Nk {mx:Nat} {k:IntKind} (hm:mx=EO k) (x y:Int) (K:Int→R):Aa mx k x y K=K (k.wrap (x+y)):=by
 have hw: ∀ m:Nat,m≤mx→k.wrap (m:Int)=m:=by
  intro m h;subst hm
  unfold IntKind.wrap
  cases k<;>simp [EO,IntKind.bits,IntKind.signed] at h ⊢<;>omega
 unfold Aa wrI
 cases x with
 | negSucc a=>exact C4 _ _
 | ofNat a =>
  cases y with
  | ofNat b =>
   show Bool.rec (motive:=fun _=>R) _ _ (Nat.ble (a+b) mx)=_
   cases h:Nat.ble (a+b) mx with
   | false=>exact C4 _ _
   | true =>
    have:=hw (a+b) (Nat.le_of_ble_eq_true h)
    show fN (a+b) _=_
    rw [Cc]
    show K ((a+b:Nat):Int)=K (k.wrap ((a:Int)+(b:Int)))
    rw [←Int.natCast_add,this]
  | negSucc b =>
   show Bool.rec (motive:=fun _=>R) _ (Bool.rec (motive:=fun _=>R) _ _ (Nat.ble a mx)) (Nat.ble (b+1) a)=_
   cases h:Nat.ble (b+1) a with
   | false=>exact C4 _ _
   | true =>
    cases h2:Nat.ble a mx with
    | false=>exact C4 _ _
    | true =>
     have h3:=Nat.le_of_ble_eq_true h
     have:=hw (a - (b+1)) (by have:=Nat.le_of_ble_eq_true h2;omega)
     show fN (a - (b+1)) _=_
     rw [Cc]
     have e:Int.ofNat a+Int.negSucc b=((a - (b+1):Nat):Int):=by
      simp only [Int.ofNat_eq_natCast,Int.negSucc_eq];omega
     rw [e,this];rfl
theorem LG {k:IntKind} {m:Nat} (h:m≤EO k):k.wrap (m:Int)=m:=by
 unfold IntKind.wrap
 cases k<;>simp [EO,IntKind.bits,IntKind.signed] at h ⊢<;>omega
theorem Mv {mx:Nat} {k:IntKind} (hm:mx=EO k) (x y:Int) (K:Int→R):CO mx k x y K=K (k.wrap (x - y)):=by
 unfold CO wrI
 cases x with
 | negSucc a=>exact C4 _ _
 | ofNat a =>
  cases y with
  | negSucc b=>exact C4 _ _
  | ofNat b =>
   show Bool.rec (motive:=fun _=>R) _ (Bool.rec (motive:=fun _=>R) _ _ (Nat.ble a mx)) (Nat.ble b a)=_
   cases h:Nat.ble b a with
   | false=>exact C4 _ _
   | true =>
    cases h2:Nat.ble a mx with
    | false=>exact C4 _ _
    | true =>
     have h3:=Nat.le_of_ble_eq_true h
     have h4:=Nat.le_of_ble_eq_true h2
     show fN (a - b) _=_
     rw [Cc]
     have e:Int.ofNat a - Int.ofNat b=((a - b:Nat):Int):=by
      simp only [Int.ofNat_eq_natCast];omega
     rw [e,LG (by subst hm;omega)];rfl
theorem Uf {mx:Nat} {k:IntKind} (hm:mx=EO k) (x y:Int) (K:Int→R):Fv mx k x y K=K (k.wrap (x*y)):=by
 unfold Fv wrI
 cases x with
 | negSucc a=>exact C4 _ _
 | ofNat a =>
  cases y with
  | negSucc b=>exact C4 _ _
  | ofNat b =>
   show Bool.rec (motive:=fun _=>R) _ _ (Nat.ble (a*b) mx)=_
   cases h:Nat.ble (a*b) mx with
   | false=>exact C4 _ _
   | true =>
    have h4:=Nat.le_of_ble_eq_true h
    show fN (a*b) _=_
    rw [Cc]
    have e:Int.ofNat a*Int.ofNat b=((a*b:Nat):Int):=rfl
    rw [e,LG (by rw [←hm];exact h4)];rfl
theorem OQ {mx:Nat} {k:IntKind} (hm:mx=EO k) (x:Int) (K:Int→R):cvI mx k x K=K (k.wrap x):=by
 unfold cvI wrI
 cases x with
 | negSucc a=>exact C4 _ _
 | ofNat a =>
  show Bool.rec (motive:=fun _=>R) _ _ (Nat.ble a mx)=_
  cases h:Nat.ble a mx with
  | false=>exact C4 _ _
  | true =>
   have h4:=Nat.le_of_ble_eq_true h
   show fN a _=_
   rw [Cc]
   show K ((a:Nat):Int)=K (k.wrap ((a:Nat):Int))
   rw [LG (by rw [←hm];exact h4)]
theorem qG {mx:Nat} {k:IntKind} (hm:mx=EO k) {x y:Int} {K:Int→Option R} (h:Cj mx k x y K=some r):y≠0∧K (k.wrap (x.tdiv y))=some r:=by
 unfold Cj wrI at h
 cases x with
 | negSucc a =>
  simp only [FJ,C4] at h
  split at h
  ·cases h
  ·rename_i hy;exact ⟨fun e=>hy (by subst e;rfl),h⟩
 | ofNat a =>
  cases y with
  | negSucc b=>rw [C4] at h;exact ⟨by omega,h⟩
  | ofNat b =>
   cases b with
   | zero=>cases h
   | succ p =>
    refine ⟨(by intro e;cases e),?_⟩
    change Bool.rec (motive:=fun _=>Option R) _ _ (Nat.ble a mx)=some r at h
    cases hb:Nat.ble a mx with
    | false=>rw [hb,C4] at h;exact h
    | true =>
     rw [hb] at h
     change fN (a / (p+1)) _=_ at h
     rw [Cc] at h
     have e:(Int.ofNat a).tdiv (Int.ofNat (p+1))=((a / (p+1):Nat):Int):=rfl
     have:=Nat.le_of_ble_eq_true hb
     have h2:a / (p+1)≤a:=Nat.div_le_self _ _
     rw [e,LG (by subst hm;omega)];exact h
theorem qN {x y:Int} {K:Int→Option R} (h:DZ x y K=some r):y≠0∧K (x.tmod y)=some r:=by
 unfold DZ at h
 cases x with
 | negSucc a =>
  simp only [FJ,C4] at h
  split at h
  ·cases h
  ·rename_i hy;exact ⟨fun e=>hy (by subst e;rfl),h⟩
 | ofNat a =>
  cases y with
  | negSucc b=>rw [C4] at h;exact ⟨by omega,h⟩
  | ofNat b =>
   cases b with
   | zero=>cases h
   | succ p =>
    refine ⟨(by intro e;cases e),?_⟩
    change fN (a % (p+1)) _=_ at h
    rw [Cc] at h
    exact h
theorem Ki (x y:Int):ltI x y=decide (x<y):=by
 cases x<;>cases y
 ·rename_i a b
  show Nat.ble (a+1) b=_
  simp only [Int.ofNat_eq_natCast]
  cases h:Nat.ble (a+1) b with
  | true=>have:=Nat.le_of_ble_eq_true h;symm;simp;omega
  | false=>have:¬(a+1≤b):=fun h2=>by rw [Nat.ble_eq_true_of_le h2] at h;cases h
           symm;simp;omega
 ·rename_i a b
  show false=_;symm;simp only [Int.ofNat_eq_natCast,Int.negSucc_eq];simp;omega
 ·rename_i a b
  show true=_;symm;simp only [Int.ofNat_eq_natCast,Int.negSucc_eq];simp;omega
 ·rename_i a b
  show Nat.ble (b+1) a=_
  simp only [Int.negSucc_eq]
  cases h:Nat.ble (b+1) a with
  | true=>have:=Nat.le_of_ble_eq_true h;symm;simp;omega
  | false=>have:¬(b+1≤a):=fun h2=>by rw [Nat.ble_eq_true_of_le h2] at h;cases h
           symm;simp;omega
theorem PX (x y:Int):leI x y=decide (x≤y):=by
 cases x<;>cases y
 ·rename_i a b
  show Nat.ble a b=_
  simp only [Int.ofNat_eq_natCast]
  cases h:Nat.ble a b with
  | true=>have:=Nat.le_of_ble_eq_true h;symm;simp;omega
  | false=>have:¬(a≤b):=fun h2=>by rw [Nat.ble_eq_true_of_le h2] at h;cases h
           symm;simp;omega
 ·rename_i a b
  show false=_;symm;simp only [Int.ofNat_eq_natCast,Int.negSucc_eq];simp;omega
 ·rename_i a b
  show true=_;symm;simp only [Int.ofNat_eq_natCast,Int.negSucc_eq];simp;omega
 ·rename_i a b
  show Nat.ble b a=_
  simp only [Int.negSucc_eq]
  cases h:Nat.ble b a with
  | true=>have:=Nat.le_of_ble_eq_true h;symm;simp;omega
  | false=>have:¬(b≤a):=fun h2=>by rw [Nat.ble_eq_true_of_le h2] at h;cases h
           symm;simp;omega
theorem TC (x y:Int):eqI x y=(x==y):=by
 cases x<;>cases y
 ·rename_i a b
  show Nat.beq a b=_
  cases h:Nat.beq a b with
  | true=>have:=Nat.eq_of_beq_eq_true h;subst this;simp
  | false=>have:a≠b:=Nat.ne_of_beq_eq_false h
           symm;simp only [Int.ofNat_eq_natCast,beq_eq_false_iff_ne];omega
 ·rename_i a b
  show false=_;symm;simp only [Int.ofNat_eq_natCast,Int.negSucc_eq,beq_eq_false_iff_ne];omega
 ·rename_i a b
  show false=_;symm;simp only [Int.ofNat_eq_natCast,Int.negSucc_eq,beq_eq_false_iff_ne];omega
 ·rename_i a b
  show Nat.beq a b=_
  cases h:Nat.beq a b with
  | true=>have:=Nat.eq_of_beq_eq_true h;subst this;simp
  | false=>have:a≠b:=Nat.ne_of_beq_eq_false h
           symm;simp only [Int.negSucc_eq,beq_eq_false_iff_ne];omega
theorem Ip (b:Bool):ntB b=!b:=by cases b<;>rfl
theorem Sz (a b:Bool):eqB a b=(a==b):=by cases a<;>cases b<;>rfl
theorem KS (l m:List UInt8):eqS l m=EB l m:=by
 induction l generalizing m with
 | nil=>cases m<;>rfl
 | cons a l ih =>
  cases m with
  | nil=>rfl
  | cons b m =>
   show Bool.rec (motive:=fun _=>Bool) false (eqS l m) (Nat.beq a.toNat b.toNat)=_
   rw [ih]
   show _=(Nat.beq a.toNat b.toNat&&EB l m)
   cases Nat.beq a.toNat b.toNat<;>simp
theorem Yg {op:BinOp} {k:IntKind} {x y:Int} {K:TV→Option R} (hop:op≠.shl) (hop2:op≠.shr) (h:Lc op k x y K=some r): ∃ tv,Fs op k x y=some tv.toV∧tv.ok∧K tv=some r:=by
 unfold Lc at h
 split at h
 ·rw [Nk rfl] at h;exact ⟨.ii k _,rfl,trivial,h⟩
 ·rw [Mv rfl] at h;exact ⟨.ii k _,rfl,trivial,h⟩
 ·rw [Uf rfl] at h;exact ⟨.ii k _,rfl,trivial,h⟩
 ·obtain ⟨h1,h2⟩:=qG rfl h;exact ⟨.ii k _,by simp [Fs,h1,TV.toV],trivial,h2⟩
 ·obtain ⟨h1,h2⟩:=qN h;exact ⟨.ii k _,by simp [Fs,h1,TV.toV],trivial,h2⟩
 ·exact ⟨.bb _,by rw [TC];rfl,trivial,h⟩
 ·exact ⟨.bb _,by rw [TC,Ip];rfl,trivial,h⟩
 ·exact ⟨.bb _,by rw [Ki];rfl,trivial,h⟩
 ·exact ⟨.bb _,by rw [PX];rfl,trivial,h⟩
 ·exact ⟨.bb _,by rw [Ki];rfl,trivial,h⟩
 ·exact ⟨.bb _,by rw [PX];rfl,trivial,h⟩
 ·obtain ⟨v,h1,h2⟩:=BO h;exact ⟨.vv v false,h1,(fun h=>by cases h),h2⟩
theorem uE {op:BinOp} {x y:List UInt8} {K:TV→Option R} (h:QS op x y K=some r): ∃ tv,K9 op x y=some tv.toV∧tv.ok∧K tv=some r:=by
 unfold QS at h
 split at h
 ·obtain ⟨h1,h2⟩:=CG h
  have h1:Nat.ble (BN x+BN y) 9223372036854775807=true:=h1
  rw [Bv,Bv] at h1
  exact ⟨.ss _,by show (if _ then _ else _)=_;rw [if_pos h1,IP];rfl,trivial,h2⟩
 ·exact ⟨.bb _,by rw [KS];rfl,trivial,h⟩
 ·exact ⟨.bb _,by rw [KS,Ip];rfl,trivial,h⟩
 ·obtain ⟨v,h1,h2⟩:=BO h;exact ⟨.vv v false,h1,(fun h=>by cases h),h2⟩
end
def adr:V→Nat→Option V
 | .ptr b v o,n=>some (.ptr b v (o+n))
 | .eptr xs i j,n=>some (.eptr xs i (j+n))
 | .gptr g o,n=>some (.gptr g (o+n))
 | _,_=>none
section
variable {R:Type} {fr:SF} {F:Fr} {r:R} {E:Env} {σ:St}
theorem IL {x p:V} (h:adr x 0=some p):p=x:=by
 cases x<;>cases h<;>rfl
theorem Ir {P:Program} {t:TypeId} {i:TypeInfo} {d:TypeDesc} (hi:P.info? t=some i) (hu:P.underlying t=some d) (hd:Bc d=false) {cs:List V} {off:Nat} {v:V} (hv:cs[off]? = some v) (h1:v.one=true):part P t cs off=some v:=by
 unfold part;simp [hi,hu,hd,hv,h1]
theorem Jj {P:Program} {t:TypeId} {i:TypeInfo} {d:TypeDesc} (hi:P.info? t=some i) (hu:P.underlying t=some d) (hd:Bc d=true) {cs:List V} {off:Nat} (hv:((cs.drop off).take i.size).length=i.size):part P t cs off=some (.agg ((cs.drop off).take i.size)):=by
 unfold part;simp only [hi,hu,hd]
 rw [if_pos trivial,if_pos (by rw [hv];exact Nat.beq_refl _)]
theorem Rm {b ver off:Nat} {K:V→Option R} (h:bk1 σ b ver off K=some r): ∃ cs ty fz v,σ.get b=some (.blk cs ty ver fz)∧cs[off]? = some v∧v.one=true∧K v=some r:=by
 obtain ⟨o,h1,h2⟩:=BO (show oK _ _=some r from h)
 rw [St.getF_eq] at h1
 cases o with
 | map es clock=>cases h2
 | blk cs ty ver' fz =>
  obtain ⟨h3,h4⟩:=CG (show gd _ _=some r from h2)
  obtain ⟨v,h5,h6⟩:=BO h4
  obtain ⟨h7,h8⟩:=CG h6
  have:=Nat.eq_of_beq_eq_true h3
  subst this
  rw [DX] at h5;rw [V.zAH] at h7
  exact ⟨cs,ty,fz,v,h1,h5,h7,h8⟩
theorem Rn {n b ver off:Nat} {K:V→Option R} (h:bkN σ n b ver off K=some r): ∃ cs ty fz,σ.get b=some (.blk cs ty ver fz)∧((cs.drop off).take n).length=n∧K (.agg ((cs.drop off).take n))=some r:=by
 obtain ⟨o,h1,h2⟩:=BO (show oK _ _=some r from h)
 rw [St.getF_eq] at h1
 cases o with
 | map es clock=>cases h2
 | blk cs ty ver' fz =>
  obtain ⟨h3,h4⟩:=CG (show gd _ _=some r from h2)
  have h5:=CG h4
  simp only [Ep,FK,Bv] at h5
  have:=Nat.eq_of_beq_eq_true h3
  subst this
  exact ⟨cs,ty,fz,h1,Nat.eq_of_beq_eq_true h5.1,h5.2⟩
theorem Sv {x:V} {off:Nat} {K:V→Option R} (h:el1 x off K=some r): ∃ v,x.cells[off]? = some v∧v.one=true∧K v=some r:=by
 obtain ⟨v,h5,h6⟩:=BO (show oK _ _=some r from h)
 obtain ⟨h7,h8⟩:=CG h6
 rw [DX,V.zAB] at h5;rw [V.zAH] at h7
 exact ⟨v,h5,h7,h8⟩
theorem Sw {x:V} {n off:Nat} {K:V→Option R} (h:elN x n off K=some r):((x.cells.drop off).take n).length=n∧K (.agg ((x.cells.drop off).take n))=some r:=by
 have h5:=CG (show gd _ _=some r from h)
 simp only [Ep,FK,Bv,V.zAB] at h5
 exact ⟨Nat.eq_of_beq_eq_true h5.1,h5.2⟩
theorem V.zS {x:V} {b ver o:Nat} (h:x.asP=.ptr b ver o):x=.ptr b ver o:=by
 cases x<;>cases h
 rfl
theorem V.zQ {x:V} {xs:List V} {i j:Nat} (h:x.asP=.eptr xs i j):x=.eptr xs i j:=by
 cases x<;>cases h
 rfl
theorem V.zR {x:V} {g o:Nat} (h:x.asP=.gptr g o):x=.gptr g o:=by
 cases x<;>cases h
 rfl
theorem V.zU {x:V} {xs:List V} (h:x.asSl=.lst xs): ∃ full,x=.lst xs full:=by
 cases x<;>cases h
 exact ⟨_,rfl⟩
theorem V.zV {x:V} {b ver o len:Nat} (h:x.asSl=.ref b ver o len): ∃ cap,x=.ref b ver o len cap:=by
 cases x<;>cases h
 exact ⟨_,rfl⟩
theorem PV {t:TypeId} {i:TypeInfo} {d:TypeDesc} (hi:E.P.info? t=some i) (hu:E.P.underlying t=some d) (hd:Bc d=false) {x:V} {off:Nat} {K:V→Option R} (h:ld1 E x off σ K=some r) :
 ∃ p v,adr x off=some p∧loadAt E t p σ=some v∧v.one=true∧K v=some r:=by
 unfold ld1 at h
 cases hx:x.asP with
 | no=>rw [hx] at h;cases h
 | ptr b ver o =>
  rw [hx] at h;have:=V.zS hx;subst this
  obtain ⟨cs,ty,fz,v,h1,h2,h3,h4⟩:=Rm (show bk1 σ b ver (o+off) K=some r from h)
  refine ⟨_,v,rfl,?_,h3,h4⟩
  unfold loadAt
  simp only [h1,Nat.beq_refl,if_true]
  exact Ir hi hu hd h2 h3
 | eptr xs k j =>
  rw [hx] at h;have:=V.zQ hx;subst this
  obtain ⟨e,h1,h2⟩:=BO (show oK _ _=some r from h)
  obtain ⟨v,h3,h4,h5⟩:=Sv h2
  rw [DX] at h1
  refine ⟨_,v,rfl,?_,h4,h5⟩
  unfold loadAt
  simp only [h1]
  exact Ir hi hu hd h3 h4
 | gptr g o =>
  rw [hx] at h;have:=V.zR hx;subst this
  obtain ⟨cs,h1,h2⟩:=BO (show oK _ _=some r from h)
  obtain ⟨v,h3,h4⟩:=BO h2
  obtain ⟨h5,h6⟩:=CG h4
  rw [DX] at h3;rw [V.zAH] at h5
  refine ⟨_,v,rfl,?_,h5,h6⟩
  unfold loadAt
  simp only [h1]
  exact Ir hi hu hd h3 h5
theorem PW {t:TypeId} {i:TypeInfo} {d:TypeDesc} (hi:E.P.info? t=some i) (hu:E.P.underlying t=some d) (hd:Bc d=true) {x:V} {off:Nat} {K:V→Option R} (h:ldN E i.size x off σ K=some r) :
 ∃ p v,adr x off=some p∧loadAt E t p σ=some v∧K v=some r:=by
 unfold ldN at h
 cases hx:x.asP with
 | no=>rw [hx] at h;cases h
 | ptr b ver o =>
  rw [hx] at h;have:=V.zS hx;subst this
  obtain ⟨cs,ty,fz,h1,h2,h4⟩:=Rn (show bkN σ i.size b ver (o+off) K=some r from h)
  refine ⟨_,_,rfl,?_,h4⟩
  unfold loadAt
  simp only [h1,Nat.beq_refl,if_true]
  exact Jj hi hu hd h2
 | eptr xs k j =>
  rw [hx] at h;have:=V.zQ hx;subst this
  obtain ⟨e,h1,h2⟩:=BO (show oK _ _=some r from h)
  obtain ⟨h4,h5⟩:=Sw h2
  rw [DX] at h1
  refine ⟨_,_,rfl,?_,h5⟩
  unfold loadAt
  simp only [h1]
  exact Jj hi hu hd h4
 | gptr g o =>
  rw [hx] at h;have:=V.zR hx;subst this
  obtain ⟨cs,h1,h2⟩:=BO (show oK _ _=some r from h)
  have h5:=CG (show gd _ _=some r from h2)
  simp only [Ep,FK,Bv] at h5
  refine ⟨_,_,rfl,?_,h5.2⟩
  unfold loadAt
  simp only [h1]
  exact Jj hi hu hd (Nat.eq_of_beq_eq_true h5.1)
theorem Io {i:Int} {K:Nat→Option R} (h:Bt i K=some r): ∃ n:Nat,i=.ofNat n∧K n=some r:=by
 cases i with
 | ofNat n=>exact ⟨n,rfl,h⟩
 | negSucc n=>cases h
theorem Tw {t elem:TypeId} {inf:TypeInfo} (ht:E.P.underlying t=some (.slice elem)) (hi:E.P.info? elem=some inf) {xs:List V} {full:Bool} {n:Nat} {e:V} {k:IntKind} (h1:xs[n]? = some e) (h2:e.cells.length=inf.size) :
 indexAt E t (.lst xs full) (.int k (.ofNat n))=some (.eptr xs n 0):=by
 unfold indexAt
 simp only [ht,hi]
 have hlt:n<xs.length:=(List.getElem?_eq_some_iff.1 h1).1
 simp only [Fq,(Nat.blt_eq).mpr hlt,if_true,h1,h2,Nat.beq_refl]
theorem PG {t elem:TypeId} {inf:TypeInfo} (ht:E.P.underlying t=some (.slice elem)) (hi:E.P.info? elem=some inf) {b ver o len:Nat} {cap:Option Nat} {n:Nat} {k:IntKind} (h1:n<len) :
 indexAt E t (.ref b ver o len cap) (.int k (.ofNat n))=some (.ptr b ver (o+n*inf.size)):=by
 unfold indexAt
 simp only [ht,hi,Fq,(Nat.blt_eq).mpr h1,if_true]
theorem l9 {t elem u:TypeId} {inf i:TypeInfo} {d:TypeDesc} (ht:E.P.underlying t=some (.slice elem)) (hinf:E.P.info? elem=some inf) (hi:E.P.info? u=some i) (hu:E.P.underlying u=some d) (hd:Bc d=false)
 {x:V} {k:IntKind} {n:Int} {off:Nat} {K:V→Option R} (h:Ab inf.size x n off σ K=some r) :
 ∃ q p v,indexAt E t x (.int k n)=some q∧adr q off=some p∧loadAt E u p σ=some v∧v.one=true∧K v=some r:=by
 obtain ⟨n,rfl,hh⟩:=Io (show Bt _ _=some r from h)
 clear h;have h:=hh;clear hh
 cases hx:x.asSl with
 | no=>rw [hx] at h;cases h
 | lst xs =>
  rw [hx] at h;obtain ⟨full,rfl⟩:=V.zU hx
  obtain ⟨e,h1,h2⟩:=BO (show oK _ _=some r from h)
  obtain ⟨h3,h4⟩:=CG h2
  obtain ⟨v,h5,h6,h7⟩:=Sv h4
  rw [DX] at h1
  rw [Bv,V.zAB] at h3
  refine ⟨_,_,v,Tw ht hinf h1 (Nat.eq_of_beq_eq_true h3),rfl,?_,h6,h7⟩
  unfold loadAt
  simp only [h1,Nat.zero_add]
  exact Ir hi hu hd h5 h6
 | ref b ver o len =>
  rw [hx] at h;obtain ⟨cap,rfl⟩:=V.zV hx
  obtain ⟨h3,h4⟩:=CG (show gd _ _=some r from h)
  obtain ⟨cs,ty,fz,v,h5,h6,h7,h8⟩:=Rm (show bk1 σ b ver (o+(n*inf.size+off)) K=some r from h4)
  refine ⟨_,_,v,PG ht hinf (Nat.le_of_ble_eq_true h3),rfl,?_,h7,h8⟩
  unfold loadAt
  simp only [h5,Nat.beq_refl,if_true]
  exact Ir hi hu hd (by rw [←h6,Nat.add_assoc]) h7
theorem mA {t elem u:TypeId} {inf i:TypeInfo} {d:TypeDesc} (ht:E.P.underlying t=some (.slice elem)) (hinf:E.P.info? elem=some inf) (hi:E.P.info? u=some i) (hu:E.P.underlying u=some d) (hd:Bc d=true)
 {x:V} {k:IntKind} {n:Int} {off:Nat} {K:V→Option R} (h:Bo inf.size i.size x n off σ K=some r) :
 ∃ q p v,indexAt E t x (.int k n)=some q∧adr q off=some p∧loadAt E u p σ=some v∧K v=some r:=by
 obtain ⟨n,rfl,hh⟩:=Io (show Bt _ _=some r from h)
 clear h;have h:=hh;clear hh
 cases hx:x.asSl with
 | no=>rw [hx] at h;cases h
 | lst xs =>
  rw [hx] at h;obtain ⟨full,rfl⟩:=V.zU hx
  obtain ⟨e,h1,h2⟩:=BO (show oK _ _=some r from h)
  obtain ⟨h3,h4⟩:=CG h2
  obtain ⟨h6,h7⟩:=Sw h4
  rw [DX] at h1
  rw [Bv,V.zAB] at h3
  refine ⟨_,_,_,Tw ht hinf h1 (Nat.eq_of_beq_eq_true h3),rfl,?_,h7⟩
  unfold loadAt
  simp only [h1,Nat.zero_add]
  exact Jj hi hu hd h6
 | ref b ver o len =>
  rw [hx] at h;obtain ⟨cap,rfl⟩:=V.zV hx
  obtain ⟨h3,h4⟩:=CG (show gd _ _=some r from h)
  obtain ⟨cs,ty,fz,h5,h6,h8⟩:=Rn (show bkN σ i.size b ver (o+(n*inf.size+off)) K=some r from h4)
  refine ⟨_,_,_,PG ht hinf (Nat.le_of_ble_eq_true h3),rfl,?_,h8⟩
  unfold loadAt
  simp only [h5,Nat.beq_refl,if_true]
  rw [Nat.add_assoc]
  exact Jj hi hu hd h6
theorem QF {cs:List V} {off:Nat} {v:V} (h:off<cs.length) (h1:v.one=true):CX cs off [v]=some (cs.set off v):=by
 unfold CX
 rw [if_pos (by rw [(Nat.blt_eq).mpr h,h1];rfl)]
 unfold CX
 rw [if_pos (Nat.ble_eq.mpr (by rw [List.length_set];omega))]
theorem KM {v:V} (h:v.one=true):v.cells=[v]:=by cases v<;>first | rfl | (cases h;done)
theorem Ro {t:TypeId} {i:TypeInfo} (hi:E.P.info? t=some i) (hs:i.size=1) {b ver off:Nat} {v:V} (hv:v.one=true) {K:St→Option R} (h:bs1 σ b ver off v K=some r): ∃ σ',storeAt E t (.ptr b ver off) v σ=some σ'∧K σ'=some r:=by
 obtain ⟨o,h1,h2⟩:=BO (show oK _ _=some r from h)
 rw [St.getF_eq] at h1
 cases o with
 | map es clock=>cases h2
 | blk cs ty ver' fz =>
  cases fz with
  | true=>cases h2
  | false =>
   obtain ⟨h3,h4⟩:=CG (show gd _ _=some r from h2)
   obtain ⟨h5,h6⟩:=CG h4
   rw [St.zAQ,QE] at h6
   rw [Bv] at h5
   have:=Nat.eq_of_beq_eq_true h3
   subst this
   refine ⟨_,?_,h6⟩
   unfold storeAt
   simp only [hi,h1,hs,Nat.beq_refl,KM hv,List.length_singleton,Bool.and_self,if_true,QF (Nat.le_of_ble_eq_true h5) hv]
theorem Vu {t:TypeId} {i:TypeInfo} (hi:E.P.info? t=some i) (hs:i.size=1) {x:V} {off:Nat} {v:V} (hv:v.one=true) {K:St→Option R} (h:st1 x off v σ K=some r): ∃ p σ',adr x off=some p∧storeAt E t p v σ=some σ'∧K σ'=some r:=by
 unfold st1 at h
 cases hx:x.asP with
 | no=>rw [hx] at h;cases h
 | ptr b ver o =>
  rw [hx] at h;have:=V.zS hx;subst this
  obtain ⟨σ',h1,h2⟩:=Ro hi hs hv (show bs1 σ b ver (o+off) v K=some r from h)
  exact ⟨_,σ',rfl,h1,h2⟩
 | eptr xs k j=>rw [hx] at h;cases h
 | gptr g o=>rw [hx] at h;cases h
theorem tK {t elem u:TypeId} {inf i:TypeInfo} (ht:E.P.underlying t=some (.slice elem)) (hinf:E.P.info? elem=some inf) (hi:E.P.info? u=some i) (hs:i.size=1) {x:V} {k:IntKind} {n:Int} {off:Nat} {v:V} (hv:v.one=true) {K:St→Option R} (h:Ju inf.size x n off v σ K=some r) :
 ∃ q p σ',indexAt E t x (.int k n)=some q∧adr q off=some p∧storeAt E u p v σ=some σ'∧K σ'=some r:=by
 obtain ⟨n,rfl,hh⟩:=Io (show Bt _ _=some r from h)
 clear h;have h:=hh;clear hh
 cases hx:x.asSl with
 | no=>rw [hx] at h;cases h
 | lst xs=>rw [hx] at h;cases h
 | ref b ver o len =>
  rw [hx] at h;obtain ⟨cap,rfl⟩:=V.zV hx
  obtain ⟨h3,h4⟩:=CG (show gd _ _=some r from h)
  obtain ⟨σ',h5,h6⟩:=Ro hi hs hv (show bs1 σ b ver (o+(n*inf.size+off)) v K=some r from h4)
  exact ⟨_,_,σ',PG ht hinf (Nat.le_of_ble_eq_true h3),rfl,by rw [Nat.add_assoc];exact h5,h6⟩
end
section
variable {R:Type} {fr:SF} {F:Fr} {r:R} {E:Env} {σ:St}
def Du (_:Env) (F:Fr) (a:Option (V×St)) (K:Kt R) (r:R):Prop:=∃ fr' tv σ',a=some (tv.toV,σ')∧tv.ok∧Ap fr' F∧K fr' tv σ'=some r
theorem C8 {v:V}: (TV.vv v false).ok:=fun h=>by cases h
theorem O6 {op:BinOp} {t:TypeId} {x y:Operand} {K:Kt R} (h:KV E op t fr x y σ K=some r) (hf:Ap fr F): ∃ a b,F.ev x=some a∧F.ev y=some b∧Du E F (keep σ (Cn E op t x y a b σ)) K r:=by
 unfold KV at h
 obtain ⟨a,h1,h2⟩:=Bh h hf
 obtain ⟨b,h3,h4⟩:=Bh h2 hf
 obtain ⟨v,h5,h6⟩:=BO h4
 exact ⟨a,b,h1,h3,fr,.vv v false,σ,by rw [h5];rfl,C8,hf,h6⟩
theorem UD {v:V} {b:Bool} (h:v.isNilP=some b):(v=.ptr0∧b=true)∨(b=false∧((∃ x y z,v=.ptr x y z)∨(∃ x y z,v=.eptr x y z)∨∃ x y,v=.gptr x y)):=by
 cases v<;>cases h
 ·exact .inl ⟨rfl,rfl⟩
 ·exact .inr ⟨rfl,.inl ⟨_,_,_,rfl⟩⟩
 ·exact .inr ⟨rfl,.inr (.inl ⟨_,_,_,rfl⟩)⟩
 ·exact .inr ⟨rfl,.inr (.inr ⟨_,_,rfl⟩)⟩
theorem Y0 {op:BinOp} {t yt:TypeId} {x y:Operand} {K:Kt R} (h:Nx E op t fr x y yt σ K=some r) (hf:Ap fr F): ∃ a b,F.ev x=some a∧F.ev y=some b∧Du E F (keep σ (Cn E op t x y a b σ)) K r:=by
 unfold Nx at h
 split at h
 ·rename_i k hk
  have other: ∀ (op:BinOp),op≠.shl→op≠.shr→(Dc k fr x fun fr a=>Dc k fr y fun fr b=>Lc op k a b fun v=>K fr v σ)=some r→∃ a b,F.ev x=some a∧F.ev y=some b∧Du E F (keep σ (Cn E op t x y a b σ)) K r:=by
   intro op ho1 ho2 h
   obtain ⟨fr1,a,h1,h2,h3⟩:=Es h hf
   obtain ⟨fr2,b,h4,h5,h6⟩:=Es h3 h2
   obtain ⟨tv,h7,h8,h9⟩:=Yg ho1 ho2 h6
   refine ⟨_,_,h1,h4,fr2,tv,σ,?_,h8,h5,h9⟩
   have:Cn E op t x y (.int k a) (.int k b) σ=Fs op k a b:=by
    show ET E op t (.int k a) (.int k b) σ=_
    unfold ET
    cases op<;>first | (exact absurd rfl ho1) | (exact absurd rfl ho2) | (simp only;rw [if_pos (by cases k<;>rfl)])
   rw [this,h7];rfl
  have shift: ∀ (op:BinOp),(op=.shl∨op=.shr)→(match E.P.underlying yt with
   | some (.int k')=>Dc k fr x fun fr a=>Dc k' fr y fun fr b=>shK op k a b fun v=>K fr (.vv v false) σ
   | _=>none)=some r→∃ a b,F.ev x=some a∧F.ev y=some b∧Du E F (keep σ (Cn E op t x y a b σ)) K r:=by
   intro op ho h
   split at h
   ·obtain ⟨fr1,a,h1,h2,h3⟩:=Es h hf
    obtain ⟨fr2,b,h4,h5,h6⟩:=Es h3 h2
    obtain ⟨v,h7,h8⟩:=BO h6
    refine ⟨_,_,h1,h4,fr2,.vv v false,σ,?_,C8,h5,h8⟩
    unfold Cn
    simp only
    unfold ET
    rcases ho with rfl | rfl<;>(simp only;rw [h7];rfl)
   ·cases h
  split at h
  ·exact shift _ (.inl rfl) h
  ·exact shift _ (.inr rfl) h
  ·rename_i n1 n2
   exact other _ (fun e=>n1 e) (fun e=>n2 e) h
 ·obtain ⟨fr1,a,h1,h2,h3⟩:=H8 h hf
  obtain ⟨fr2,b,h4,h5,h6⟩:=H8 h3 h2
  obtain ⟨tv,h7,h8,h9⟩:=uE h6
  exact ⟨_,_,h1,h4,fr2,tv,σ,by show keep σ (ET E op t (.str a) (.str b) σ)=_;unfold ET;simp only;rw [h7];rfl,h8,h5,h9⟩
 ·rename_i ht
  split at h
  ·obtain ⟨fr1,a,h1,h2,h3⟩:=FZ h hf
   obtain ⟨fr2,b,h4,h5,h6⟩:=FZ h3 h2
   exact ⟨_,_,h1,h4,fr2,.bb _,σ,by show keep σ (ET E _ t (.bool a) (.bool b) σ)=_;unfold ET eqV;simp only [ht];rw [Sz];rfl,trivial,h5,h6⟩
  ·obtain ⟨fr1,a,h1,h2,h3⟩:=FZ h hf
   obtain ⟨fr2,b,h4,h5,h6⟩:=FZ h3 h2
   exact ⟨_,_,h1,h4,fr2,.bb _,σ,by show keep σ (ET E _ t (.bool a) (.bool b) σ)=_;unfold ET eqV;simp only [ht];rw [Sz,Ip];rfl,trivial,h5,h6⟩
  ·cases h
 ·rename_i e ht
  cases hn:PO y with
  | false=>rw [hn] at h;exact O6 h hf
  | true =>
   rw [hn] at h
   simp only [bC] at h
   have hy:F.ev y=some .ptr0:=by
    unfold PO at hn
    split at hn
    ·rfl
    ·cases hn
   have key: ∀ (v:V) (b:Bool),v.isNilP=some b→eqV E t v .ptr0 σ=some b:=by
    intro v b hb
    rcases UD hb with ⟨rfl,rfl⟩ | ⟨rfl,⟨_,_,_,rfl⟩ | ⟨_,_,_,rfl⟩ | ⟨_,_,rfl⟩⟩<;>(unfold eqV;simp only [ht])
   have kb: ∀ (op:BinOp) (v:V) (b:Bool),v.isNilP=some b→Cn E op t x y v .ptr0 σ=(match op,eqV E t v .ptr0 σ with
    | .eql,some r=>some (.bool r)
    | .neq,some r=>some (.bool (!r))
    | _,_=>none):=by
    intro op v b hb
    rcases UD hb with ⟨rfl,rfl⟩ | ⟨rfl,⟨_,_,_,rfl⟩ | ⟨_,_,_,rfl⟩ | ⟨_,_,rfl⟩⟩<;>rfl
   split at h
   ·obtain ⟨v,h1,h2⟩:=Bh h hf
    obtain ⟨b,h3,h4⟩:=BO h2
    exact ⟨_,_,h1,hy,fr,.bb b,σ,by rw [kb _ v b h3,key v b h3];rfl,trivial,hf,h4⟩
   ·obtain ⟨v,h1,h2⟩:=Bh h hf
    obtain ⟨b,h3,h4⟩:=BO h2
    exact ⟨_,_,h1,hy,fr,.bb (ntB b),σ,by rw [kb _ v b h3,key v b h3,Ip];rfl,trivial,hf,h4⟩
   ·cases h
 ·rename_i ms ht
  cases hn:isNilI y with
  | false=>rw [hn] at h;exact O6 h hf
  | true =>
   rw [hn] at h
   simp only [bC] at h
   have hyc:y=.const .nilIface:=by
    unfold isNilI at hn
    split at hn
    ·rfl
    ·cases hn
   subst hyc
   have hy:F.ev (.const .nilIface)=some .if0:=rfl
   have kb: ∀ (v:V) (b:Bool),v.isNilI=some b→Cn E .eql t x (.const .nilIface) v .if0 σ=some (.bool b)∧Cn E .neq t x (.const .nilIface) v .if0 σ=some (.bool (!b)):=by
    intro v b hb
    cases v<;>cases hb
    ·constructor<;>(unfold Cn;simp [ME,ht])
    ·constructor<;>(unfold Cn;simp only;unfold ET eqV;simp only [ht])
   split at h
   ·obtain ⟨v,h1,h2⟩:=Bh h hf
    obtain ⟨b,h3,h4⟩:=BO h2
    exact ⟨_,_,h1,hy,fr,.bb b,σ,by rw [(kb v b h3).1];rfl,trivial,hf,h4⟩
   ·obtain ⟨v,h1,h2⟩:=Bh h hf
    obtain ⟨b,h3,h4⟩:=BO h2
    exact ⟨_,_,h1,hy,fr,.bb (ntB b),σ,by rw [(kb v b h3).2,Ip];rfl,trivial,hf,h4⟩
   ·cases h
 ·exact O6 h hf
theorem TP {place:Nat→Option (Nat×Nat)} {pl:Nat→Nat} {n:Nat}: ∀ (l:List (Nat×TV)) (cs:List V),cs.length=n→(∀ p∈l,p.2.toV.one=true)→(∀ p∈l,place p.1=some (pl p.1,1)∧pl p.1<n) →
 EW place cs (l.map fun p=>(p.1,p.2.toV))=some (Ml pl l cs)
 | [],cs,_,_,_=>rfl
 | (i,v) :: r,cs,hn,h1,h2=>by
  have hv:=h1 _ (List.mem_cons_self ..)
  obtain ⟨hp,hlt⟩:=h2 _ (List.mem_cons_self ..)
  simp only [List.map_cons,EW,hp,KM hv,List.length_singleton,Nat.beq_refl,if_true,QF (hn▸hlt) hv]
  exact TP r _ (by simp [hn]) (fun p hp=>h1 p (List.mem_cons_of_mem _ hp)) (fun p hp=>h2 p (List.mem_cons_of_mem _ hp))
theorem Vm {P:Program}: ∀ {fs:List Field} {l:List (Nat×Nat)},Hy P fs=some l→∀ {i:Nat} {f:Field} {inf:TypeInfo},fs[i]? = some f→P.info? f.type=some inf→l[i]? = some (f.offset,inf.size)
 | [],l,h,i,f,inf,hf,_=>by simp at hf
 | g :: fs,l,h,i,f,inf,hf,hi=>by
  unfold Hy at h
  split at h
  ·rename_i j l' h1 h2
   cases h
   cases i with
   | zero=>simp at hf;subst hf;rw [hi] at h1;cases h1;rfl
   | succ i=>simp at hf ⊢;exact Vm h2 hf hi
  ·cases h
theorem RO {v:V} (hv:v.one=true): ∀ (cs:List V) (i:Nat),BM cs=true→BM (cs.set i v)=true
 | [],i,h=>by simpa using h
 | c :: cs,0,h=>by simp only [BM,Bool.and_eq_true] at h;simp only [List.set_cons_zero,BM,Bool.and_eq_true];exact ⟨hv,h.2⟩
 | c :: cs,i+1,h=>by simp only [BM,Bool.and_eq_true] at h;simp only [List.set_cons_succ,BM,Bool.and_eq_true];exact ⟨h.1,RO hv cs i h.2⟩
theorem Vb (place:Nat→Nat): ∀ (l:List (Nat×TV)) (cs:List V),(∀ p∈l,p.2.toV.one=true)→BM cs=true→BM (Ml place l cs)=true
 | [],_,_,h=>h
 | (_,_) :: r,cs,h1,h=>Vb place r _ (fun p hp=>h1 p (List.mem_cons_of_mem _ hp)) (RO (h1 _ (List.mem_cons_self ..)) cs _ h)
theorem Y8 {t:TypeId} {ps:List (Nat×Operand)} {K:Kt R} (h:N0 E t ps fr σ K=some r) (hf:Ap fr F): ∃ l,Dy F.ev ps=some l∧Du E F (keep σ (CD E t l)) K r:=by
 have gen:(Jk fr ps fun l=>oK (CD E t l) fun v=>K fr (.vv v false) σ)=some r→∃ l,Dy F.ev ps=some l∧Du E F (keep σ (CD E t l)) K r:=by
  intro h
  obtain ⟨l,h1,h2⟩:=Pw h hf
  obtain ⟨v,h3,h4⟩:=BO h2
  exact ⟨l,h1,fr,.vv v false,σ,by rw [h3];rfl,C8,hf,h4⟩
 unfold N0 at h
 split at h
 ·rename_i z fs hz hu
  cases hc:(U3 E.P fs z.length ps&&(Hy E.P fs.toList).isSome&&BM z) with
  | false=>rw [hc] at h;exact gen h
  | true =>
   rw [hc] at h
   simp only [Bool.and_eq_true] at hc
   obtain ⟨⟨hp,hs⟩,ho⟩:=hc
   obtain ⟨places,hs⟩:=Option.isSome_iff_exists.1 hs
   obtain ⟨fr',l,h1,h2,h3,h4,h5⟩:=Pv (show Kv fr ps _=some r from h) hf
   refine ⟨_,h1,fr',.aa _,σ,?_,Vb _ _ _ h2 ho,h4,h5⟩
   unfold CD
   simp only [hz,hu,hs]
   have hfill:=TP (place:=fun i=>places[i]?) (pl:=MU fs) (n:=z.length) l z rfl h2 ?_
   ·show keep σ (match EW (fun i=>places[i]?) z (l.map fun p=>(p.1,p.2.toV)) with | some cs=>some (V.agg cs) | none=>none)=_
    rw [hfill];rfl
   ·intro p hpm
    have hm:p.1∈ps.map (·.1):=by rw [←h3];exact List.mem_map_of_mem hpm
    obtain ⟨q,hq,hqe⟩:=List.mem_map.1 hm
    have:=List.all_eq_true.1 hp q hq
    rw [hqe] at this
    split at this
    ·rename_i f hfs
     simp only [Bool.and_eq_true] at this
     obtain ⟨h6,h7⟩:=this
     split at h6
     ·rename_i inf hinf
      have h8:fs.toList[p.1]? = some f:=by simpa using hfs
      have:=Vm hs h8 hinf
      refine ⟨?_,?_⟩
      ·rw [this,Nat.eq_of_beq_eq_true h6];unfold MU;rw [hfs]
      ·unfold MU;rw [hfs];exact Nat.blt_eq.mp h7
     ·cases h6
    ·cases this
 ·exact gen h
theorem mP {t:TypeId} {a:Operand} {K:Kt R} (h:Pc E t fr a σ K=some r) (hf:Ap fr F): ∃ p,F.ev a=some p∧Du E F (keep σ (loadAt E t p σ)) K r:=by
 unfold Pc at h
 split at h
 ·rename_i i d hi hd
  obtain ⟨p,h1,h2⟩:=Bh h hf
  cases hg:Bc d with
  | true =>
   rw [hg] at h2
   obtain ⟨q,v,h3,h4,h5⟩:=PW hi hd hg (show ldN E i.size p 0 σ _=some r from h2)
   rw [IL h3] at h4
   exact ⟨p,h1,fr,.vv v false,σ,by rw [h4];rfl,C8,hf,h5⟩
  | false =>
   rw [hg] at h2
   obtain ⟨q,v,h3,h4,h6,h5⟩:=PV hi hd hg (show ld1 E p 0 σ _=some r from h2)
   rw [IL h3] at h4
   exact ⟨p,h1,fr,.vv v true,σ,by rw [h4];rfl,fun _=>h6,hf,h5⟩
 ·cases h
theorem uC {t:TypeId} {a x:Operand} {K:Kt R} (h:QQ E t fr a x σ K=some r) (hf:Ap fr F): ∃ p v,F.ev a=some p∧F.ev x=some v∧Du E F (unit (storeAt E t p v σ)) K r:=by
 unfold QQ at h
 split at h
 ·rename_i i d hi hd
  obtain ⟨p,h1,h2⟩:=Bh h hf
  cases hg:(Bc d||!Nat.beq i.size 1) with
  | true =>
   rw [hg] at h2
   simp only [bC] at h2
   obtain ⟨v,h3,h4⟩:=Bh h2 hf
   obtain ⟨σ',h5,h6⟩:=BO h4
   exact ⟨p,v,h1,h3,fr,Db,σ',by rw [h5];rfl,C8,hf,h6⟩
  | false =>
   rw [hg] at h2
   simp only [Bool.or_eq_false_iff,Bool.not_eq_false'] at hg
   simp only [bC] at h2
   obtain ⟨fr1,tv,h3,h4,h5,h6⟩:=Qo h2 hf
   obtain ⟨q,σ',h7,h8,h9⟩:=Vu (t:=t) hi (Nat.eq_of_beq_eq_true hg.2) h4 h6
   rw [IL h7] at h8
   exact ⟨p,_,h1,h3,fr1,Db,σ',by rw [h8];rfl,C8,h5,h9⟩
 ·cases h
theorem bB {s:TypeId} {x:Operand} {f:Nat} {K:Kt R} (h:Oq E s fr x f σ K=some r) (hf:Ap fr F): ∃ v,F.ev x=some v∧Du E F (keep σ (Ez E s v f)) K r:=by
 unfold Oq at h
 split at h
 ·rename_i fs hs
  split at h
  ·rename_i fd hfd
   split at h
   ·rename_i i d hi hd
    split at h
    ·rename_i cs hx
     obtain ⟨h1,h2⟩:=CL hf hx
     refine ⟨_,h1,?_⟩
     cases hg:Bc d with
     | true =>
      rw [hg] at h
      simp only [bC] at h
      split at h
      ·rename_i v hv
       exact ⟨fr,.vv v false,σ,by show keep σ (Ez E s (.agg cs) f)=_;rw [hv];rfl,C8,hf,h⟩
      ·cases h
     | false =>
      rw [hg] at h
      simp only [bC] at h
      split at h
      ·rename_i v hv
       have hone:v.one=true:=by
        have:BM cs=true:=h2
        clear h1 hx h
        revert hv
        generalize fd.offset=n
        intro hv
        induction cs generalizing n with
        | nil=>simp at hv
        | cons c cs ih =>
         simp only [BM,Bool.and_eq_true] at this
         cases n with
         | zero=>simp at hv;rw [←hv];exact this.1
         | succ n=>simp at hv;exact ih this.2 this.2 n hv
       exact ⟨fr,.of1 v,σ,by show keep σ (Ez E s (.agg cs) f)=_;unfold Ez;simp only [hs,hfd,Ir hi hd hg hv hone,TV.zAK];rfl,TV.of1_ok hone,hf,h⟩
      ·cases h
    ·rename_i v o hx
     obtain ⟨h1,h2⟩:=CL hf hx
     refine ⟨_,h1,?_⟩
     cases hg:Bc d with
     | true =>
      rw [hg] at h
      obtain ⟨cs,h3,h4⟩:=BO (show oK v.asA _=some r from h)
      have:=V.zM h3;subst this
      have h5:=CG (show gd _ _=some r from h4)
      simp only [Ep,FK,Bv] at h5
      refine ⟨fr,.vv _ false,σ,?_,C8,hf,h5.2⟩
      show keep σ (Ez E s (.agg cs) f)=_
      unfold Ez
      simp only [hs,hfd,Jj hi hd hg (Nat.eq_of_beq_eq_true h5.1)]
      rfl
     | false =>
      rw [hg] at h
      obtain ⟨cs,h3,h4⟩:=BO (show oK v.asA _=some r from h)
      have:=V.zM h3;subst this
      obtain ⟨w,h5,h6⟩:=BO h4
      obtain ⟨h7,h8⟩:=CG h6
      rw [DX] at h5;rw [V.zAH] at h7
      refine ⟨fr,.vv _ true,σ,?_,fun _=>h7,hf,h8⟩
      show keep σ (Ez E s (.agg cs) f)=_
      unfold Ez
      simp only [hs,hfd,Ir hi hd hg h5 h7]
      rfl
    ·cases h
   ·cases h
  ·cases h
 ·cases h
theorem eF {l:List UInt8} {n:Int} {K:Int→Option R} (h:Cs l n K=some r): ∃ (m:Nat) (b:UInt8),n=.ofNat m∧l[m]? = some b∧K (b.toNat)=some r:=by
 cases n with
 | negSucc n=>cases h
 | ofNat m =>
  obtain ⟨b,h1,h2⟩:=BO (show oK _ _=some r from h)
  rw [Cc] at h2;rw [DX] at h1
  exact ⟨m,b,rfl,h1,h2⟩
theorem eV {t:TypeId} {x i:Operand} {K:Kt R} (h:PH E t fr x i σ K=some r) (hf:Ap fr F): ∃ v n,F.ev x=some v∧F.ev i=some n∧Du E F (keep σ (C5 E t v n)) K r:=by
 unfold PH at h
 split at h
 ·rename_i ht
  obtain ⟨fr1,l,h1,h2,h3⟩:=H8 h hf
  obtain ⟨k,n,h4,h6⟩:=I7 h3 h2
  obtain ⟨m,b,rfl,h7,h8⟩:=eF h6
  refine ⟨_,_,h1,h4,fr1,.ii .u8 _,σ,?_,trivial,h2,h8⟩
  unfold C5
  simp only [ht,h7]
  rfl
 ·obtain ⟨v,h1,h2⟩:=Bh h hf
  obtain ⟨n,h3,h4⟩:=Bh h2 hf
  obtain ⟨w,h5,h6⟩:=BO h4
  exact ⟨_,_,h1,h3,fr,.vv w false,σ,by rw [h5];rfl,C8,hf,h6⟩
theorem QJ {s:List UInt8} {l h:Nat} {K:List UInt8→Option R} (hh:slS s l h K=some r):l≤h∧h≤s.length∧K ((s.drop l).take (h - l))=some r:=by
 obtain ⟨h1,h2⟩:=CG (show gd _ _=some r from hh)
 obtain ⟨h3,h4⟩:=CG h2
 rw [Ep,FK] at h4
 rw [Bv] at h3
 exact ⟨Nat.le_of_ble_eq_true h1,Nat.le_of_ble_eq_true h3,h4⟩
theorem sJ {t:TypeId} {x:V} {lo hi mx:Option V} {v:V} (h:sliceAt E t x lo hi mx σ=some v):v.one=true:=by
 unfold sliceAt at h
 repeat' split at h
 all_goals first | (cases h;rfl) | cases h | skip
 all_goals (simp only [Option.some.injEq] at h;subst h;split<;>rfl)
theorem sM {t:TypeId} {x:Operand} {lo hi mx:Option Operand} {K:Kt R} (h:QK E t fr x lo hi mx σ K=some r) (hf:Ap fr F) :
 ∃ v l h m,F.ev x=some v∧Cu F.ev lo=some l∧Cu F.ev hi=some h∧Cu F.ev mx=some m∧Du E F (keep σ (sliceAt E t v l h m σ)) K r:=by
 unfold QK at h
 split at h
 ·rename_i hx ht
  obtain ⟨fr1,s,h1,h2,h3⟩:=H8 h hf
  obtain ⟨k,n,h4,h6⟩:=I7 h3 h2
  obtain ⟨n,rfl,h7⟩:=Io h6
  obtain ⟨h8,h9,h10⟩:=QJ h7
  refine ⟨_,none,some (.int k (.ofNat n)),none,h1,rfl,by simp [Cu,h4],rfl,fr1,.ss _,σ,?_,trivial,h2,h10⟩
  unfold sliceAt
  simp only [ht,CF]
  rw [if_pos (by simp [h9])]
  rfl
 ·rename_i lx ht
  obtain ⟨fr1,s,h1,h2,h3⟩:=H8 h hf
  obtain ⟨k,n,h4,h6⟩:=I7 h3 h2
  obtain ⟨n,rfl,h7⟩:=Io h6
  obtain ⟨h8,h9,h10⟩:=QJ h7
  rw [Bv] at h8 h10
  refine ⟨_,some (.int k (.ofNat n)),none,none,h1,by simp [Cu,h4],rfl,rfl,fr1,.ss _,σ,?_,trivial,h2,h10⟩
  unfold sliceAt
  simp only [ht,CF]
  rw [if_pos (by simp [h8])]
  rfl
 ·rename_i lx hx ht
  obtain ⟨fr1,s,h1,h2,h3⟩:=H8 h hf
  obtain ⟨k,n,h4,h6⟩:=I7 h3 h2
  obtain ⟨k',m,h4',h6'⟩:=I7 h6 h2
  obtain ⟨n,rfl,h7⟩:=Io h6'
  obtain ⟨m,rfl,h7'⟩:=Io h7
  obtain ⟨h8,h9,h10⟩:=QJ h7'
  refine ⟨_,some (.int k (.ofNat n)),some (.int k' (.ofNat m)),none,h1,by simp [Cu,h4],by simp [Cu,h4'],rfl,fr1,.ss _,σ,?_,trivial,h2,h10⟩
  unfold sliceAt
  simp only [ht,CF]
  rw [if_pos (by simp [h8,h9])]
  rfl
 ·obtain ⟨v,h1,h2⟩:=Bh h hf
  obtain ⟨fr1,l,h3,h4,h5⟩:=Pp h2 hf
  obtain ⟨fr2,hh,h6,h7,h8⟩:=Pp h5 h4
  obtain ⟨fr3,m,h9,h10,h11⟩:=Pp h8 h7
  obtain ⟨w,h12,h13⟩:=BO h11
  exact ⟨v,l,hh,m,h1,h3,h6,h9,fr3,.vv w true,σ,by rw [h12];rfl,fun _=>sJ h12,h10,h13⟩
end
section
variable {R:Type} {fr:SF} {F:Fr} {r:R} {E:Env} {σ:St}
theorem ZA {t:TypeId} {len:Nat} {l:List (Nat×V)} {v:V} {σ':St} (h:Cb E t len l σ=some (v,σ')):v.one=true:=by
 unfold Cb at h
 repeat' split at h
 all_goals cases h
 all_goals rfl
theorem nE {t:TypeId} {x y:V} {v:V} {σ':St} (h:Dk E t x y σ=some (v,σ')):v.one=true:=by
 unfold Dk at h
 repeat' split at h
 all_goals cases h
 all_goals rfl
theorem Zc {s d:TypeId} {x v:V} (h:GX E s d x σ=some v):v.one=true:=by
 unfold GX at h
 repeat' split at h
 all_goals first | (cases h;done) | (cases h;rfl)
theorem nI {s d:TypeId} {x v:V} {σ σ':St} (h:Im E s d x σ=some (v,σ')):v.one=true:=by
 unfold Im at h
 repeat' split at h
 all_goals first | (cases h;done) | (cases h;rfl)
theorem eT {t:TypeId} {x i v:V} (h:indexAt E t x i=some v):v.one=true:=by
 unfold indexAt at h
 repeat' split at h
 all_goals first | (cases h;done) | (cases h;rfl)
theorem aY {t:TypeId} {x v:V} {f:Nat} (h:fieldAt E t x f=some v):v.one=true:=by
 unfold fieldAt at h
 repeat' split at h
 all_goals first | (cases h;done) | (cases h;rfl)
theorem mD {t:TypeId} {x v:V} (h:Gc E t x σ=some v):v.one=true:=by
 unfold Gc at h
 repeat' split at h
 all_goals first | (cases h;done) | (cases h;rfl)
theorem fJ {v:V} (h:v.isAdr=true) (ev:Operand→Option V) (x:Operand) (hx:ev x=some v):Am E ev (.nilCheck x) σ=some (v,σ)∧v.one=true:=by
 unfold Am
 simp only [hx]
 cases v<;>first | (cases h;done) | exact ⟨rfl,rfl⟩
theorem Tv {t:TypeId} {v:V} {k:IntKind} {n:Int}: indexAt E t v (.int k n)=indexAt E t v (.int .i64 n):=by
 unfold indexAt
 cases E.P.underlying t with
 | none=>rfl
 | some d=>cases d<;>rfl
theorem Us {o:Op} {K:Kt R} (h:opS E fr o σ K=some r) (hf:Ap fr F):Du E F (Am E F.ev o σ) K r:=by
 unfold opS at h
 split at h
 ·split at h
  ·rename_i x v hv
   obtain ⟨h1,h2⟩:=CL hf hv
   exact ⟨fr,v,σ,by simp only [Am,h1];rfl,h2,hf,h⟩
  ·cases h
 ·split at h
  ·rename_i x v hv
   obtain ⟨h1,h2⟩:=CL hf hv
   exact ⟨fr,v,σ,by simp only [Am,h1];rfl,h2,hf,h⟩
  ·cases h
 ·rename_i c a b
  obtain ⟨fr1,cb,h1,h2,h3⟩:=FZ h hf
  have pk: ∀ (p q:TV),F.ev a=some p.toV→F.ev b=some q.toV→Am E F.ev (.pick c a b) σ=some (bK cb p.toV q.toV,σ):=by
   intro p q hp hq
   simp only [Am,h1]
   cases cb
   ·simp only [hq];rfl
   ·simp only [hp];rfl
  split at h3
  ·rename_i p q hp hq
   have:=pk _ _ (CL h2 hp).1 (CL h2 hq).1
   exact ⟨fr1,.bb _,σ,by rw [this];cases cb<;>rfl,trivial,h2,h3⟩
  ·rename_i k p k' q hp hq
   cases hk:DU k k' with
   | false=>rw [hk] at h3;cases h3
   | true =>
    rw [hk] at h3
    have hk:=kEq hk
    subst hk
    have:=pk _ _ (CL h2 hp).1 (CL h2 hq).1
    exact ⟨fr1,.ii k _,σ,by rw [this];cases cb<;>rfl,trivial,h2,h3⟩
  ·rename_i p hp hq
   have h4:=CL h2 hp
   have h5:=CL h2 hq
   have:=pk _ _ h4.1 h5.1
   cases cb with
   | true=>exact ⟨fr1,p,σ,this,h4.2,h2,h3⟩
   | false=>exact ⟨fr1,Db,σ,this,h5.2,h2,h3⟩
  ·rename_i q hn hp hq
   have h4:=CL h2 hp
   have h5:=CL h2 hq
   have:=pk _ _ h4.1 h5.1
   cases cb with
   | true=>exact ⟨fr1,Db,σ,this,h4.2,h2,h3⟩
   | false=>exact ⟨fr1,q,σ,this,h5.2,h2,h3⟩
  ·rename_i p q hp hq
   have h4:=CL h2 hp
   have h5:=CL h2 hq
   have:=pk _ _ h4.1 h5.1
   refine ⟨fr1,.vv _ _,σ,this,fun ho=>?_,h2,h3⟩
   simp only [Bool.and_eq_true] at ho
   cases cb
   ·exact TV.zAO h5.2 ho.2
   ·exact TV.zAO h4.2 ho.1
  ·cases h3
 ·split at h
  ·rename_i t z hz
   rw [St.zAI] at h
   exact ⟨fr,.vv (.ptr σ.n 0 0) true,_,by simp only [Am,hz];rfl,fun _=>rfl,hf,h⟩
  ·cases h
 ·split at h
  ·rename_i t x v hv
   obtain ⟨h1,h2⟩:=CL hf hv
   rw [St.zAI] at h
   have hc:(bC v.isOne [v.toV] v.toV.cellsF)=v.toV.cells:=by
    cases ho:v.isOne with
    | true=>exact (KM (TV.zAO h2 ho)).symm
    | false=>exact V.zAB _
   rw [hc] at h
   exact ⟨fr,.vv (.ptr σ.n 0 0) true,_,by simp only [Am,h1];rfl,fun _=>rfl,hf,h⟩
  ·cases h
 ·obtain ⟨l,h1,h2⟩:=Y8 h hf
  simp only [Am,h1];exact h2
 ·obtain ⟨l,h1,h2⟩:=Pw h hf
  obtain ⟨v,σ',h3,h4⟩:=Fy h2
  exact ⟨fr,.vv v true,σ',by simp only [Am,h1,h3];rfl,fun _=>ZA h3,hf,h4⟩
 ·obtain ⟨p,h1,h2⟩:=mP h hf
  simp only [Am,h1];exact h2
 ·obtain ⟨p,v,h1,h2,h3⟩:=uC h hf
  simp only [Am,h1,h2];exact h3
 ·obtain ⟨v,h1,h2⟩:=Bh h hf
  obtain ⟨h3,h4⟩:=CG (show gd _ _=some r from h2)
  obtain ⟨h5,h6⟩:=fJ (E:=E) (σ:=σ) h3 F.ev _ h1
  exact ⟨fr,.vv v true,σ,h5,fun _=>h6,hf,h4⟩
 ·obtain ⟨a,b,h1,h2,h3⟩:=Y0 h hf
  simp only [Am,h1,h2];exact h3
 ·obtain ⟨fr1,b,h1,h2,h3⟩:=FZ h hf
  exact ⟨fr1,.bb _,σ,by simp only [Am,h1,unV];rw [Ip];rfl,trivial,h2,h3⟩
 ·split at h
  ·rename_i t x k ht
   obtain ⟨fr1,n,h1,h2,h3⟩:=Es h hf
   rw [Mv rfl] at h3
   exact ⟨fr1,.ii k _,σ,by simp only [Am,h1,unV];rfl,trivial,h2,h3⟩
  ·cases h
 ·obtain ⟨v,h1,h2⟩:=Bh h hf
  obtain ⟨w,h3,h4⟩:=BO h2
  exact ⟨fr,.vv w false,σ,by simp only [Am,h1,h3];rfl,C8,hf,h4⟩
 ·rename_i ts td xo
  split at h
  ·rename_i k k' hs hd
   obtain ⟨fr1,n,h1,h2,h3⟩:=Es h hf
   rw [OQ rfl] at h3
   have hss:E9 E ts td=false:=by
    unfold E9
    split
    ·rename_i h5 h6;rw [hd] at h6;cases h6
    ·rfl
   exact ⟨fr1,.ii k' _,σ,by simp only [Am,h1,hss,GX,hs,hd];rfl,trivial,h2,h3⟩
  ·rename_i hs hd
   obtain ⟨fr1,n,h1,h2,h3⟩:=H8 h hf
   have hss:E9 E ts td=false:=by
    unfold E9
    split
    ·rename_i h5 h6;rw [hd] at h6;cases h6
    ·rfl
   exact ⟨fr1,.ss _,σ,by simp only [Am,h1,hss,GX,hs,hd];rfl,trivial,h2,h3⟩
  ·cases hss:E9 E ts td with
   | true =>
    rw [hss] at h
    replace h:(Ba fr xo fun v=>pK (Im E ts td v σ) fun v σ'=>K fr (.vv v true) σ')=some r:=h
    obtain ⟨v,h1,h2⟩:=Bh h hf
    obtain ⟨w,σ1,h3,h4⟩:=Fy h2
    exact ⟨fr,.vv w true,σ1,by simp only [Am,h1,hss,if_true,h3];rfl,fun _=>nI h3,hf,h4⟩
   | false =>
    rw [hss] at h
    replace h:(Ba fr xo fun v=>oK (GX E ts td v σ) fun v=>K fr (.vv v true) σ)=some r:=h
    obtain ⟨v,h1,h2⟩:=Bh h hf
    obtain ⟨w,h3,h4⟩:=BO h2
    exact ⟨fr,.vv w true,σ,by simp only [Am,h1,hss,h3];rfl,fun _=>Zc h3,hf,h4⟩
 ·split at h
  ·cases h
  ·cases h
  ·rename_i d hn hd
   obtain ⟨v,h1,h2⟩:=Bh h hf
   refine ⟨fr,.vv (.ifc _ v) true,σ,?_,fun _=>rfl,hf,h2⟩
   simp only [Am,h1,hd]
   cases d<;>first | rfl | (exact absurd hd (hn _))
 ·rename_i f first cap
  cases hc:first.isEmpty with
  | false=>rw [hc] at h;cases h
  | true =>
   rw [hc] at h
   obtain ⟨vs,h1,h2⟩:=LF (show I8 fr cap.toList _=some r from h) hf
   exact ⟨fr,.vv (.fn f vs) true,σ,by simp only [Am,hc,h1,if_true];rfl,fun _=>rfl,hf,h2⟩
 ·split at h
  ·rename_i t k e ht
   rw [St.zAI] at h
   exact ⟨fr,.vv (.map σ.n) true,_,by simp only [Am,ht,Cu];rfl,fun _=>rfl,hf,h⟩
  ·cases h
 ·split at h
  ·rename_i t x k e ht
   obtain ⟨fr1,n,h1,h2,h3⟩:=Es h hf
   rw [St.zAI] at h3
   exact ⟨fr1,.vv (.map σ.n) true,_,by simp only [Am,ht,Cu,h1];rfl,fun _=>rfl,h2,h3⟩
  ·cases h
 ·obtain ⟨fr1,n,h1,h2,h3⟩:=Es h hf
  obtain ⟨fr2,m,h4,h5,h6⟩:=Es h3 h2
  obtain ⟨v,σ',h7,h8⟩:=Fy h6
  exact ⟨fr2,.vv v true,σ',by simp only [Am,h1,h4,h7];rfl,fun _=>nE h7,h5,h8⟩
 ·obtain ⟨v,l,hh,m,h1,h2,h3,h4,h5⟩:=sM h hf
  simp only [Am,h1,h2,h3,h4];exact h5
 ·unfold TN at h
  obtain ⟨v,h1,h2⟩:=Bh h hf
  obtain ⟨w,h3,h4⟩:=BO h2
  exact ⟨fr,.vv w true,σ,by simp only [Am,h1,h3];rfl,fun _=>aY h3,hf,h4⟩
 ·obtain ⟨v,h1,h2⟩:=bB h hf
  simp only [Am,h1];exact h2
 ·obtain ⟨v,h1,h2⟩:=Bh h hf
  obtain ⟨k,n,h4,h6⟩:=I7 h2 hf
  obtain ⟨w,h7,h8⟩:=BO h6
  exact ⟨fr,.vv w true,σ,by simp only [Am,h1,h4,Tv (k:=k),h7];rfl,fun _=>eT h7,hf,h8⟩
 ·obtain ⟨v,n,h1,h2,h3⟩:=eV h hf
  simp only [Am,h1,h2];exact h3
 ·obtain ⟨m,h1,h2⟩:=Bh h hf
  obtain ⟨k,h3,h4⟩:=Bh h2 hf
  obtain ⟨w,h7,h8⟩:=BO h4
  exact ⟨fr,.vv w false,σ,by simp only [Am,h1,h3,h7];rfl,C8,hf,h8⟩
 ·obtain ⟨m,h1,h2⟩:=Bh h hf
  obtain ⟨k,h3,h4⟩:=Bh h2 hf
  obtain ⟨x,h5,h6⟩:=Bh h4 hf
  obtain ⟨w,h7,h8⟩:=BO h6
  exact ⟨fr,Db,w,by simp only [Am,h1,h3,h5,h7];rfl,C8,hf,h8⟩
 ·obtain ⟨m,h1,h2⟩:=Bh h hf
  obtain ⟨k,h3,h4⟩:=Bh h2 hf
  obtain ⟨x,h5,h6⟩:=Bh h4 hf
  obtain ⟨w,h7,h8⟩:=BO h6
  exact ⟨fr,Db,w,by simp only [Am,h1,h3,h5,h7];rfl,C8,hf,h8⟩
 ·obtain ⟨m,h1,h2⟩:=Bh h hf
  obtain ⟨k,h3,h4⟩:=Bh h2 hf
  obtain ⟨v,σ',h7,h8⟩:=Fy h4
  exact ⟨fr,.vv v false,σ',by simp only [Am,h1,h3,h7];rfl,C8,hf,h8⟩
 ·obtain ⟨m,h1,h2⟩:=Bh h hf
  obtain ⟨k,h3,h4⟩:=Bh h2 hf
  obtain ⟨x,h5,h6⟩:=Bh h4 hf
  obtain ⟨w,h7,h8⟩:=BO h6
  exact ⟨fr,Db,w,by simp only [Am,h1,h3,h5,h7];rfl,C8,hf,h8⟩
 ·obtain ⟨t,h1,h2⟩:=Bh h hf
  obtain ⟨vs,h3,h4⟩:=BO (show oK t.asT _=some r from h2)
  have:=V.zW h3;subst this
  obtain ⟨v,h5,h6⟩:=BO h4
  rw [DX] at h5
  exact ⟨fr,.vv v false,σ,by simp only [Am,h1,h5];rfl,C8,hf,h6⟩
 ·cases h
theorem Yl {v:V} {n:Nat} (h:v.asLen=some n) {t e:TypeId} (ht:E.P.underlying t=some (.slice e)):Gc E t v σ=some (.int .i64 n):=by
 unfold Gc
 simp only [ht]
 cases v<;>cases h
 ·rfl
 ·rfl
 ·rw [Bv]
 ·rfl
def YE (F:Fr) (f:List V→Option (V×St)) (xs:List Operand) (K:Kt R) (r:R):Prop:=∃ vs fr' tv σ',evs F.ev xs=some vs∧f vs=some (tv.toV,σ')∧tv.ok∧Ap fr' F∧K fr' tv σ'=some r
theorem ZD {b:Builtin} {ts:List TypeId} {xs:List Operand} {K:Kt R} (h:N7 E b ts xs fr σ K=some r) (hf:Ap fr F):YE F (fun vs=>Co E b ts vs σ) xs K r:=by
 unfold N7 at h
 split at h
 ·rename_i t ts' x
  split at h
  ·rename_i ht
   obtain ⟨fr1,l,h1,h2,h3⟩:=H8 h hf
   have h3:fN (BN l) _=some r:=h3
   rw [Cc,Bv] at h3
   exact ⟨[.str l],fr1,.ii .i64 _,σ,by simp only [evs,h1],by simp only [Co,Gc,ht];rfl,trivial,h2,h3⟩
  ·rename_i e ht
   obtain ⟨v,h1,h2⟩:=Bh h hf
   obtain ⟨n,h3,h4⟩:=BO (show oK v.asLen _=some r from h2)
   rw [Cc] at h4
   exact ⟨[v],fr,.ii .i64 _,σ,by simp only [evs,h1],by simp only [Co,Yl (E:=E) (σ:=σ) h3 ht];rfl,trivial,hf,h4⟩
  ·obtain ⟨v,h1,h2⟩:=Bh h hf
   obtain ⟨w,h3,h4⟩:=BO h2
   exact ⟨[v],fr,.vv w true,σ,by simp only [evs,h1],by simp only [Co,h3];rfl,fun _=>mD h3,hf,h4⟩
 ·split at h
  ·rename_i t ts' x y k ht
   obtain ⟨fr1,a,h1,h2,h3⟩:=Es h hf
   obtain ⟨fr2,b,h4,h5,h6⟩:=Es h3 h2
   refine ⟨[.int k a,.int k b],fr2,.ii k _,σ,by simp only [evs,h1,h4],?_,trivial,h5,h6⟩
   have hk:DU k k=true:=by cases k<;>rfl
   simp only [Co,Ic,ML,hk,if_true,FJ,Ki,decide_eq_true_eq]
   rfl
  ·cases h
 ·split at h
  ·rename_i t ts' x y k ht
   obtain ⟨fr1,a,h1,h2,h3⟩:=Es h hf
   obtain ⟨fr2,b,h4,h5,h6⟩:=Es h3 h2
   refine ⟨[.int k a,.int k b],fr2,.ii k _,σ,by simp only [evs,h1,h4],?_,trivial,h5,h6⟩
   have hk:DU k k=true:=by cases k<;>rfl
   simp only [Co,Ic,MJ,hk,if_true,FJ,Ki,decide_eq_true_eq]
   rfl
  ·cases h
 ·obtain ⟨vs,h1,h2⟩:=LF h hf
  obtain ⟨v,σ',h3,h4⟩:=Fy h2
  exact ⟨vs,fr,.vv v false,σ',h1,h3,C8,hf,h4⟩
def Df (pu:FuncId→Bool) (call:Call):Prop:=∀ f,pu f=true→∀ vs σ v σ',call f vs σ=some (v,σ')→σ'=σ
def IU (E:Env) (call:Call) (F:Fr) (c:Go.Call) (σ:St):Option (V×St) :=
 match evs F.ev c.args.toList with
 | some vs=>match c.callee with
  | .builtin b=>Co E b c.argTypes.toList vs σ
  | .value f=>match F.ev f with
   | some (.fn g cap)=>call g (vs++cap) σ
   | _=>none
  | .invoke ..=>none
 | none=>none
theorem R6 {call:Call} {pu:FuncId→Bool} (hp:Df pu call) {c:Go.Call} {K:Kt R} (h:Le E call pu c fr σ K=some r) (hf:Ap fr F):Du E F (IU E call F c σ) K r:=by
 unfold Le at h
 unfold IU
 split at h
 ·rename_i b hc
  obtain ⟨vs,fr',tv,σ',h1,h2,h3,h4,h5⟩:=ZD h hf
  refine ⟨fr',tv,σ',?_,h3,h4,h5⟩
  simp only [h1,hc];exact h2
 ·rename_i f hc
  obtain ⟨vs,h1,h2⟩:=LF h hf
  have hev:F.ev (.func f)=some (.fn f []):=rfl
  cases hpu:pu f with
  | true =>
   rw [hpu] at h2
   simp only [bC] at h2
   obtain ⟨v,σ',h3,h4⟩:=Fy h2
   have:=hp f hpu vs σ v σ' h3
   rw [this] at h3
   refine ⟨fr,.vv v false,σ,?_,C8,hf,h4⟩
   simp only [h1,hc,hev,List.append_nil];exact h3
  | false =>
   rw [hpu] at h2
   simp only [bC] at h2
   obtain ⟨v,σ',h3,h4⟩:=Fy h2
   refine ⟨fr,.vv v false,σ',?_,C8,hf,h4⟩
   simp only [h1,hc,hev,List.append_nil];exact h3
 ·rename_i f hne hc
  obtain ⟨g,h1,h2⟩:=Bh h hf
  obtain ⟨vs,h3,h4⟩:=LF h2 hf
  obtain ⟨v,σ',h5,h6⟩:=Fy h4
  refine ⟨fr,.vv v false,σ',?_,C8,hf,h6⟩
  unfold JK at h5
  split at h5
  ·rename_i g' cap
   simp only [h3,hc,h1];exact h5
  ·cases h5
 ·cases h
end
end SS
namespace SS
open Go
noncomputable section
inductive SH where
 | one
 | adr (n:Nat)
 | app
 | grp (n:Nat) (l:List SH)
inductive CA where
 | at (x:V) (off:Nat)
 | el (t:TypeId) (x:V) (sz:Nat) (i:Int) (off:Nat)
def Cz:Option (Nat×Bool)→Option (Nat×Bool)→Bool
 | none,none=>true
 | some (i,a),some (j,b)=>Nat.beq i j&&(a==b)
 | _,_=>false
def Oc (d:Option Nat) (c:Nat):Bool:=match d with | some c'=>Nat.beq c c' | none=>false
def Ec:Option Nat→Option Nat→Bool
 | some a,some b=>!Nat.beq a b
 | _,_=>true
section
variable {R:Type}
abbrev EP (N:Nat) (gt:Option Nat) (d:Option Nat) (fr:SF) (tv:TV) (σ:St) (K:SF→St→Option R):Option R :=
 match d with
 | some d=>bC (Nat.blt d N&&Ec gt (some d)) (K (fr.setR d tv) σ) (none)
 | none=>K fr σ
def Ct (E:Env) (call:Call) (pu:FuncId→Bool) (N:Nat) (gt:Option Nat) (o:Oper) (fr:SF) (σ:St) (K:SF→St→Option R):Option R :=
 match o.op with
 | .call c=>Le E call pu c fr σ fun fr tv σ=>EP N gt o.dst fr tv σ K
 | .defer _=>none
 | op=>opS E fr op σ fun fr tv σ=>EP N gt o.dst fr tv σ K
def Lu (E:Env) (s:TypeId) (f:Nat):Option Nat :=
 match E.P.underlying s with
 | some (.struct fs)=>match fs[f]? with
  | some fd=>match E.P.info? fd.type with
   | some i=>bC (Nat.beq i.size 0) (none) (some fd.offset)
   | none=>none
  | none=>none
 | _=>none
abbrev QO (E:Env) (op:Op) (fr:SF) (K:SF→CA→Option R):Option R :=
 match op with
 | .fieldAddr s x f=>match Lu E s f with
  | some o=>Ba fr x fun p=>K fr (.at p o)
  | none=>none
 | .indexAddr t x i=>match E.P.underlying t with
  | some (.slice elem)=>match E.P.info? elem with
   | some inf=>Ba fr x fun v=>Gn fr i fun n=>K fr (.el t v inf.size n 0)
   | none=>none
  | _=>none
 | .nilCheck x=>Ba fr x fun p=>K fr (.at p 0)
 | _=>none
def CA.on:CA→Nat→CA
 | .at x o,n=>.at x (Nat.add o n)
 | .el t x sz i o,n=>.el t x sz i (Nat.add o n)
def Hf (x:Operand) (d:Nat):Bool:=match x with | .tmp t=>Nat.beq t d | _=>false
def Oi (E:Env) (op:Op) (ca:CA) (d:Nat) (fr:SF) (σ:St) (K:Kt R):Option R :=
 match op with
 | .load t a=>bC (Hf a d) ((match E.P.info? t,E.P.underlying t with
  | some inf,some ds=>match ca with
   | .at x off=>bC (Bc ds) (ldN E inf.size x off σ fun v=>K fr (.vv v false) σ) (ld1 E x off σ fun v=>K fr (.vv v true) σ)
   | .el _ x sz i off=>bC (Bc ds) (Bo sz inf.size x i off σ fun v=>K fr (.vv v false) σ) (Ab sz x i off σ fun v=>K fr (.vv v true) σ)
  | _,_=>none)) (none)
 | .store t a x=>bC (Hf a d) ((match E.P.info? t,E.P.underlying t with
  | some inf,some ds=>bC (Bc ds||!Nat.beq inf.size 1) (none) ((J2 fr x fun fr v=>match ca with
   | .at y off=>st1 y off v.toV σ fun σ'=>K fr Db σ'
   | .el _ y sz i off=>Ju sz y i off v.toV σ fun σ'=>K fr Db σ'))
  | _,_=>none)) (none)
 | _=>none
def EY (N:Nat) (gt:Option Nat) (d:Nat) (fr:SF):Bool:=Nat.blt d N&&Ec gt (some d)&&(fr.getF d).isNone
def GW (E:Env) (N:Nat) (g:Option (Nat×Bool)) (gt:Option Nat):Nat→List Oper→CA→Nat→SF→St→(SF→St→Option R)→Option R
 | 0,o :: _,ca,d,fr,σ,K=>bC (Cz g o.guard) (Oi E o.op ca d fr σ fun fr tv σ=>EP N gt o.dst fr tv σ K) (none)
 | n+1,o :: os,ca,d,fr,σ,K=>bC (Cz g o.guard) ((match o.op,o.dst with
  | .fieldAddr s x f,some d'=>match Lu E s f with
   | some off=>bC (Hf x d&&EY N gt d' fr) (GW E N g gt n os (ca.on off) d' fr σ K) (none)
   | none=>none
  | _,_=>none)) (none)
 | _,_,_,_,_,_,_=>none
def Nl (E:Env) (N:Nat) (g:Option (Nat×Bool)) (gt:Option Nat) (n:Nat) (os:List Oper) (fr:SF) (σ:St) (K:SF→St→Option R):Option R :=
 match n,os with
 | n+1,o :: os=>match o.dst with
  | some d=>bC (Cz g o.guard&&EY N gt d fr) (QO E o.op fr fun fr ca=>bC (EY N gt d fr) (GW E N g gt n os ca d fr σ K) (none)) (none)
  | none=>none
 | _,_=>none
def Ih:Nat→List (Nat×Operand)→Bool
 | _,[]=>true
 | i,(j,_) :: r=>Nat.beq i j&&Ih (i+1) r
def agN (n:Nat) (v:V) (K:List V→Option R):Option R:=oK v.asA fun cs=>gd (Nat.beq (BN cs) n) (gd (Ew V.isOne cs) (K cs))
def Nr (E:Env) (N:Nat) (g:Option (Nat×Bool)) (gt:Option Nat) (os:List Oper) (fr:SF) (σ:St) (K:SF→St→Option R):Option R :=
 match os with
 | o1 :: o2 :: _=>bC (Cz g o1.guard&&Cz g o2.guard) ((match o1.op,o1.dst,o2.op with
  | .buildSlice t len ps,some d,.call c=>match c.callee,c.args.toList,c.argTypes.toList with
   | .builtin .append,[s,.tmp d'],[t',u]=>match E.P.underlying t,E.P.underlying u with
    | some (.slice elem),some (.slice _)=>match E.P.info? elem,E.P.underlying elem,Cm E.P elem with
     | some inf,some ds,some z =>
      bC (Nat.beq d d'&&Nat.beq t t'&&EY N gt d fr&&!E.wlit t&&Nat.ble inf.bytes 16384&&Nat.beq z.cells.length inf.size&&Ih 0 ps.toList&&Nat.beq ps.toList.length len&&Nat.blt 0 len&&Nat.ble len 1000&&Nat.blt 0 inf.size&&Nat.ble inf.size 1000) (Ba fr s fun sv=>bC (!Bc ds&&Nat.beq inf.size 1) (Kv fr ps.toList fun fr l=>bC (EY N gt d fr) (BQ elem 1 len (l.map fun p=>p.2.toV) sv σ fun v σ'=>EP N gt o2.dst fr (.vv v true) σ' K) (none)) ((match ps.toList with
       | [(_,x)]=>match sev fr x with
        | some (.aa cs)=>bC (Bc ds&&Nat.beq cs.length inf.size) (BQ elem inf.size 1 cs sv σ fun v σ'=>EP N gt o2.dst fr (.vv v true) σ' K) (none)
        | some (.vv v _)=>bC (Bc ds) (agN inf.size v fun cs=>BQ elem inf.size 1 cs sv σ fun v σ'=>EP N gt o2.dst fr (.vv v true) σ' K) (none)
        | _=>none
       | _=>none))) (none)
     | _,_,_=>none
    | _,_=>none
   | _,_,_=>none
  | _,_,_=>none)) (none)
 | _=>none
def A8 (c:Bool) (σ:St) (X:Option (Bool×St)) (K:Bool→St→Option R):Option R:=Bool.rec (K false σ) (pK X K) c
def orK (c:Bool) (σ:St) (X:Option (Bool×St)) (K:Bool→St→Option R):Option R:=Bool.rec (pK X K) (K true σ) c
def JZ (x:Operand) (b:Bool):Bool:=match x with | .const (.bool c)=>c==b | _=>false
def IM (N:Nat) (gt:Option Nat) (fr:SF) (os:List Oper):Bool:=os.all fun o=>match o.dst with | some d=>EY N gt d fr | none=>true
def Jr (all:List Oper) (g:Nat×Bool):List Oper→List Nat→Bool
 | [],_=>true
 | o :: r,ds=>(match o.guard with
  | some (j,w)=>(Nat.beq j g.1&&(w==g.2))||(match all[j]? with | some p=>(match p.dst with | some d=>ds.any (Nat.beq d) | none=>false) | none=>false)
  | none=>false)&&(match o.dst with | some d=>Jr all g r (d :: ds) | none=>Jr all g r ds)
end
def DJ (E:Env) (call:Call) (pu:FuncId→Bool) (N:Nat) (all:List Oper):Nat→{R:Type}→Option (Nat×Bool)→Option Nat→List SH→List Oper→SF→St→(SF→St→Option R)→Option R
 | 0,_,_,_,_,_,_,_,_=>none
 | _+1,_,_,_,[],[],fr,σ,K=>K fr σ
 | k+1,_,g,gt,.one :: hs,o :: os,fr,σ,K=>bC (Cz g o.guard) (Ct E call pu N gt o fr σ fun fr σ=>DJ E call pu N all k g gt hs os fr σ K) (none)
 | k+1,_,g,gt,.adr n :: hs,os,fr,σ,K=>Nl E N g gt n os fr σ fun fr σ=>DJ E call pu N all k g gt hs (os.drop (n+1)) fr σ K
 | k+1,_,g,gt,.app :: hs,os,fr,σ,K=>Nr E N g gt os fr σ fun fr σ=>DJ E call pu N all k g gt hs (os.drop 2) fr σ K
 | k+1,_,g,gt,.grp n l :: hs,os,fr,σ,K=>match os.drop n with
  | p :: os'=>match p.op,p.dst,(os.take n) with
   | .pick (.tmp c) a b,some d,o :: _=>match o.guard with
    | some (j,w)=>match all[j]? with
     | some q=>bC (Cz g p.guard&&Oc q.dst c&&IM N gt fr (os.take n)&&Ec (some c) (some d)&&Nat.blt d N&&Ec gt (some d)&&Jr all (j,w) (os.take n) []) (Er fr (.tmp c) fun fr cb=>bC (IM N gt fr (os.take n)&&IM N (some c) fr (os.take n)) ((bC (w) ((bC (JZ b false) (A8 cb σ (DJ E call pu N all k (some (j,w)) (some c) l (os.take n) fr σ fun fr σ=>Er fr a fun _ x=>some (x,σ)) fun x σ=>DJ E call pu N all k g gt hs os' (fr.setR d (.bb x)) σ K) (none))) ((bC (JZ a true) (orK cb σ (DJ E call pu N all k (some (j,w)) (some c) l (os.take n) fr σ fun fr σ=>Er fr b fun _ x=>some (x,σ)) fun x σ=>DJ E call pu N all k g gt hs os' (fr.setR d (.bb x)) σ K) (none))))) (none)) (none)
     | none=>none
    | none=>none
   | _,_,_=>none
  | []=>none
 | _,_,_,_,_,_,_,_,_=>none
end
end SS
