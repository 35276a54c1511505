/-
  part 6 of the proof; no condition.
-/
import Derived.Test.YtglndmmlghpdpaaGreatDoorPE
namespace SS
open Go
noncomputable section
section
variable {R:Type}
def fN (m:Nat) (K:Nat->R):R:=Nat.rec (K 0) (λp _=>K (Nat.succ p)) m
theorem Ce (m:Nat) (K:Nat->R):fN m K=K m:=by cases m<;>rfl
def iK (x:Int) (K:Int->R):R:=Int.rec (λm=>fN m λm=>K (.ofNat m)) (λm=>fN m λm=>K (.negSucc m)) x
theorem C4 (x:Int) (K:Int->R):iK x K=K x:=by cases x<;>simp [iK,Ce]
def oK {A:Type} (x:Option A) (K:A->Option R):Option R:=Option.rec none K x
theorem BR {A:Type} {x:Option A} {K:A->Option R} {r:R} (h:oK x K=some r): ∃ a,x=some a/\K a=some r:=by
 cases x with
 | none=>cases h
 | some a=>exact ⟨a,rfl,h⟩
def pK {A B:Type} (x:Option (A×B)) (K:A->B->Option R):Option R:=Option.rec none (λp=>Prod.rec K p) x
theorem Fz {A B:Type} {x:Option (A×B)} {K:A->B->Option R} {r:R} (h:pK x K=some r): ∃ a b,x=some (a,b)/\K a b=some r:=by
 cases x with
 | none=>cases h
 | some a=>obtain ⟨a,b⟩:=a;exact ⟨a,b,rfl,h⟩
def bK (c:Bool) (X Y:R):R:=Bool.rec Y X c
abbrev bC (c:Bool) (X Y:R):R:=Bool.rec Y X c
theorem FK (c:Bool) (X Y:R):bK c X Y=if c then X else Y:=by cases c<;>rfl
def gd (c:Bool) (X:Option R):Option R:=Bool.rec none X c
theorem CO {c:Bool} {X:Option R} {r:R} (h:gd c X=some r):c=true/\X=some r:=by
 cases c with
 | false=>cases h
 | true=>exact ⟨rfl,h⟩
end
section
variable {A:Type}
def BN (l:List A):Nat:=List.rec 0 (λ_ _ n=>Nat.add n 1) l
theorem CB (l:List A):BN l=l.length:=by
 induction l with
 | nil=>rfl
 | cons a l ih=>exact congrArg (·+ 1) ih
def Dn (l:List A) (n:Nat):Option A:=List.rec (motive:=λ_=>Nat->Option A) (λ_=>none) (λh _ ih n=>Nat.rec (some h) (λp _=>ih p) n) l n
theorem Dp (l:List A) (n:Nat):Dn l n=l[n]? := by
 induction l generalizing n with
 | nil=>rfl
 | cons a l ih=>cases n with
  | zero=>rfl
  | succ n=>exact (ih n).trans (by simp)
def EG (l:List A) (n:Nat):List A:=List.rec (motive:=λ_=>Nat->List A) (λ_=>[]) (λh t ih n=>Nat.rec (h :: t) (λp _=>ih p) n) l n
theorem FL (l:List A) (n:Nat):EG l n=l.drop n:=by
 induction l generalizing n with
 | nil=>simp [EG]
 | cons a l ih=>cases n with
  | zero=>rfl
  | succ n=>exact (ih n).trans (by simp)
def Cc (l:List A) (n:Nat):List A:=List.rec (motive:=λ_=>Nat->List A) (λ_=>[]) (λh _ ih n=>Nat.rec [] (λp _=>h :: ih p) n) l n
theorem Et (l:List A) (n:Nat):Cc l n=l.take n:=by
 induction l generalizing n with
 | nil=>simp [Cc]
 | cons a l ih=>cases n with
  | zero=>rfl
  | succ n=>exact (congrArg (a :: ·) (ih n)).trans (by simp)
def GU (l m:List A):List A:=List.rec m (λh _ ih=>h :: ih) l
theorem IM (l m:List A):GU l m=l++m:=by
 induction l with
 | nil=>rfl
 | cons a l ih=>exact congrArg (a :: ·) ih
def K0 (l:List A) (n:Nat) (x:A):List A:=List.rec (motive:=λ_=>Nat->List A) (λ_=>[]) (λh t ih n=>Nat.rec (x :: t) (λp _=>h :: ih p) n) l n
theorem QC (l:List A) (n:Nat) (x:A):K0 l n x=l.set n x:=by
 induction l generalizing n with
 | nil=>simp [K0]
 | cons a l ih=>cases n with
  | zero=>rfl
  | succ n=>exact (congrArg (a :: ·) (ih n)).trans (by simp)
def Ey (f:A->Bool) (l:List A):Bool:=List.rec true (λh _ ih=>Bool.rec false ih (f h)) l
theorem YN (f:A->Bool) (l:List A):Ey f l=l.all f:=by
 induction l with
 | nil=>rfl
 | cons a l ih =>
  show Bool.rec (motive:=λ_=>Bool) false (Ey f l) (f a)=_;rw [ih];cases h:f a<;>simp [h]
end
section
variable {A:Type}
theorem PT.zAf (l:PT A) (v:Option A) (r:PT A) (n:Nat):(PT.node l v r).get n=bif Nat.beq n 0 then v else bif Nat.beq (n % 2) 1 then l.get (n / 2) else r.get (n / 2 - 1):=rfl
theorem PT.zAr (k n:Nat) (x:A):PT.setF (k+1) .leaf n x=bif Nat.beq n 0 then .node .leaf (some x) .leaf else bif Nat.beq (n % 2) 1 then .node (PT.setF k .leaf (n / 2) x) none .leaf else .node .leaf none (PT.setF k .leaf (n / 2 - 1) x):=rfl
theorem PT.zAt (k n:Nat) (x:A) (l:PT A) (v:Option A) (r:PT A):PT.setF (k+1) (.node l v r) n x=bif Nat.beq n 0 then .node l (some x) r else bif Nat.beq (n % 2) 1 then .node (PT.setF k l (n / 2) x) v r else .node l v (PT.setF k r (n / 2 - 1) x):=rfl
def PT.getF (t:PT A) (n:Nat):Option A :=
 PT.rec (motive:=λ_=>Nat->Option A) (λ_=>none) (λ_ v _ gl gr n=>Nat.rec v (λp _=>Bool.rec (gr (Nat.div p 2)) (gl (Nat.div p 2)) (Nat.beq (Nat.mod p 2) 0)) n) t n
theorem PT.getF_eq (t:PT A) (n:Nat):t.getF n=t.get n:=by
 induction t generalizing n with
 | leaf=>rfl
 | node l v r il ir =>
  cases n with
  | zero=>rfl
  | succ p =>
   show Bool.rec (motive:=λ_=>Option A) (r.getF (p / 2)) (l.getF (p / 2)) (Nat.beq (p % 2) 0)=_;rw [il,ir];rw [PT.zAf];have h0:Nat.beq (p+1) 0=false:=rfl;rw [h0];simp only [cond_false];by_cases hp:p % 2=0
   ·have e1:Nat.beq (p % 2) 0=true:=by rw [hp];rfl
    have e2:Nat.beq ((p+1) % 2) 1=true:=by rw [show (p+1) % 2=1 by omega];rfl
    rw [e1,e2];simp only [cond_true];rw [show (p+1) / 2=p / 2 by omega]
   ·have e1:Nat.beq (p % 2) 0=false:=by rw [show p % 2=1 by omega];rfl
    have e2:Nat.beq ((p+1) % 2) 1=false:=by rw [show (p+1) % 2=0 by omega];rfl
    rw [e1,e2];simp only [cond_false];rw [show (p+1) / 2 - 1=p / 2 by omega]
def PT.oneF (k n:Nat) (x:A):PT A :=
 Nat.rec (motive:=λ_=>Nat->PT A) (λ_=>.leaf) (λ_ ih n=>Nat.rec (.node .leaf (some x) .leaf) (λp _=>Bool.rec (.node .leaf none (ih (Nat.div p 2))) (.node (ih (Nat.div p 2)) none .leaf) (Nat.beq (Nat.mod p 2) 0)) n) k n
theorem PT.zAn (k n:Nat) (x:A):PT.oneF k n x=PT.setF k .leaf n x:=by
 induction k generalizing n with
 | zero=>rfl
 | succ k ih =>
  cases n with
  | zero=>rfl
  | succ p =>
   show Bool.rec (motive:=λ_=>PT A) (.node .leaf none (PT.oneF k (p / 2) x)) (.node (PT.oneF k (p / 2) x) none .leaf) (Nat.beq (p % 2) 0)=_;rw [ih,PT.zAr];have h0:Nat.beq (p+1) 0=false:=rfl;rw [h0];simp only [cond_false];by_cases hp:p % 2=0
   ·have e1:Nat.beq (p % 2) 0=true:=by rw [hp];rfl
    have e2:Nat.beq ((p+1) % 2) 1=true:=by rw [show (p+1) % 2=1 by omega];rfl
    rw [e1,e2];simp only [cond_true];rw [show (p+1) / 2=p / 2 by omega]
   ·have e1:Nat.beq (p % 2) 0=false:=by rw [show p % 2=1 by omega];rfl
    have e2:Nat.beq ((p+1) % 2) 1=false:=by rw [show (p+1) % 2=0 by omega];rfl
    rw [e1,e2];simp only [cond_false];rw [show (p+1) / 2 - 1=p / 2 by omega]
def PT.setR (t:PT A) (n:Nat) (x:A):PT A :=
 PT.rec (motive:=λ_=>Nat->PT A) (λn=>PT.oneF (Nat.succ n) n x) (λl v r sl sr n=>Nat.rec (.node l (some x) r) (λp _=>Bool.rec (.node l v (sr (Nat.div p 2))) (.node (sl (Nat.div p 2)) v r) (Nat.beq (Nat.mod p 2) 0)) n) t n
theorem PT.zAs (x:A): ∀ (k k':Nat) (t:PT A) (n:Nat),n<k->n<k'->PT.setF k t n x=PT.setF k' t n x
 | 0,_,_,_,h,_=>by omega
 | _,0,_,_,_,h=>by omega
 | k+1,k'+1,t,n,h,h'=>by
  cases hn:Nat.beq n 0 with
  | true=>cases t<;>simp [PT.setF,hn]
  | false =>
   have hn0:n≠0:=by rintro rfl;cases hn
   have i1:=λt=>PT.zAs x k k' t (n / 2) (by omega) (by omega)
   have i2:=λt=>PT.zAs x k k' t (n / 2 - 1) (by omega) (by omega)
   cases t<;>simp only [PT.setF,hn,i1,i2]
theorem PT.zAu (t:PT A) (n:Nat) (x:A):t.setR n x=t.set n x:=by
 induction t generalizing n with
 | leaf=>exact PT.zAn (n+1) n x
 | node l v r il ir =>
  cases n with
  | zero=>rfl
  | succ p =>
   show Bool.rec (motive:=λ_=>PT A) (.node l v (r.setR (p / 2) x)) (.node (l.setR (p / 2) x) v r) (Nat.beq (p % 2) 0)=_;rw [il,ir];unfold PT.set;have h0:Nat.beq (p+1) 0=false:=rfl;rw [PT.zAt,h0];simp only [cond_false];by_cases hp:p % 2=0
   ·have e1:Nat.beq (p % 2) 0=true:=by rw [hp];rfl
    have e2:Nat.beq ((p+1) % 2) 1=true:=by rw [show (p+1) % 2=1 by omega];rfl
    rw [e1,e2];simp only [cond_true];rw [show (p+1) / 2=p / 2 by omega,PT.zAs x (p / 2+1) (p+1) l (p / 2) (by omega) (by omega)]
   ·have e1:Nat.beq (p % 2) 0=false:=by rw [show p % 2=1 by omega];rfl
    have e2:Nat.beq ((p+1) % 2) 1=false:=by rw [show (p+1) % 2=0 by omega];rfl
    rw [e1,e2];simp only [cond_false];rw [show (p+1) / 2 - 1=p / 2 by omega,PT.zAs x (p / 2+1) (p+1) r (p / 2) (by omega) (by omega)]
def PT.ofL (l:List (Nat×A)):PT A:=List.rec .leaf (λp _ ih=>PT.setR ih p.1 p.2) l
def St.getF (σ:St) (b:Nat):Option AO:=PT.getF σ.h b
theorem St.getF_eq (σ:St) (b:Nat):σ.getF b=σ.get b:=PT.getF_eq _ _
def St.putK {R:Type} (σ:St) (b:Nat) (o:AO) (K:St->R):R:=fN (bK (Nat.ble (Nat.succ b) σ.tch) b σ.tch) λm=>K { h:=PT.setR σ.h b o,n:=σ.n,tch:=m }
theorem St.zAq {R:Type} (σ:St) (b:Nat) (o:AO) (K:St->R):σ.putK b o K=K (σ.put b o):=by
 unfold St.putK St.put;rw [Ce,PT.zAu]
 congr 2
 show bK (Nat.blt b σ.tch) b σ.tch=_;rw [FK];cases Nat.blt b σ.tch<;>rfl
def St.newK {R:Type} (σ:St) (o:AO) (K:Nat->St->R):R:=fN σ.n λn=>K n { h:=PT.setR σ.h n o,n:=Nat.succ n,tch:=σ.tch }
theorem St.zAi {R:Type} (σ:St) (o:AO) (K:Nat->St->R):σ.newK o K=K σ.n (σ.new o):=by
 unfold St.newK St.new;rw [Ce,PT.zAu]
end
def Gu (f:Func):Code:=match f.body with
 | some c=>c
 | none=>.skip
inductive SL where
 | no
 | lst (xs:List V)
 | ref (b ver off len:Nat)
inductive SP where
 | no
 | ptr (b ver off:Nat)
 | eptr (xs:List V) (i j:Nat)
 | gptr (g off:Nat)
def V.asI32 (v:V):Option Int :=
 V.rec (motive_1:=λ_=>Option Int) (motive_2:=λ_=>Unit) (λ_=>none) (λk n=>IntKind.rec (motive:=λ_=>Option Int) none none (some n) none none none none none k) (λ_=>none) (none) (none) (λ_ _ _=>none) (λ_ _ _ _ _=>none) (none) (λ_ _ _=>none) (λ_ _ _ _=>none) (λ_ _=>none) (none) (λ_=>none) (none) (λ_ _ _=>none) (none) (λ_ _ _=>none) (λ_ _=>none) (λ_ _=>none) (none) () (λ_ _ _ _=>()) v
def V.asI64 (v:V):Option Int :=
 V.rec (motive_1:=λ_=>Option Int) (motive_2:=λ_=>Unit) (λ_=>none) (λk n=>IntKind.rec (motive:=λ_=>Option Int) none none none (some n) none none none none k) (λ_=>none) (none) (none) (λ_ _ _=>none) (λ_ _ _ _ _=>none) (none) (λ_ _ _=>none) (λ_ _ _ _=>none) (λ_ _=>none) (none) (λ_=>none) (none) (λ_ _ _=>none) (none) (λ_ _ _=>none) (λ_ _=>none) (λ_ _=>none) (none) () (λ_ _ _ _=>()) v
def V.asU8 (v:V):Option Int :=
 V.rec (motive_1:=λ_=>Option Int) (motive_2:=λ_=>Unit) (λ_=>none) (λk n=>IntKind.rec (motive:=λ_=>Option Int) none none none none (some n) none none none k) (λ_=>none) (none) (none) (λ_ _ _=>none) (λ_ _ _ _ _=>none) (none) (λ_ _ _=>none) (λ_ _ _ _=>none) (λ_ _=>none) (none) (λ_=>none) (none) (λ_ _ _=>none) (none) (λ_ _ _=>none) (λ_ _=>none) (λ_ _=>none) (none) () (λ_ _ _ _=>()) v
def V.asU32 (v:V):Option Int :=
 V.rec (motive_1:=λ_=>Option Int) (motive_2:=λ_=>Unit) (λ_=>none) (λk n=>IntKind.rec (motive:=λ_=>Option Int) none none none none none none (some n) none k) (λ_=>none) (none) (none) (λ_ _ _=>none) (λ_ _ _ _ _=>none) (none) (λ_ _ _=>none) (λ_ _ _ _=>none) (λ_ _=>none) (none) (λ_=>none) (none) (λ_ _ _=>none) (none) (λ_ _ _=>none) (λ_ _=>none) (λ_ _=>none) (none) () (λ_ _ _ _=>()) v
def V.asU64 (v:V):Option Int :=
 V.rec (motive_1:=λ_=>Option Int) (motive_2:=λ_=>Unit) (λ_=>none) (λk n=>IntKind.rec (motive:=λ_=>Option Int) none none none none none none none (some n) k) (λ_=>none) (none) (none) (λ_ _ _=>none) (λ_ _ _ _ _=>none) (none) (λ_ _ _=>none) (λ_ _ _ _=>none) (λ_ _=>none) (none) (λ_=>none) (none) (λ_ _ _=>none) (none) (λ_ _ _=>none) (λ_ _=>none) (λ_ _=>none) (none) () (λ_ _ _ _=>()) v
def V.asAI (v:V):Option Int :=
 V.rec (motive_1:=λ_=>Option Int) (motive_2:=λ_=>Unit) (λ_=>none) (λ_ n=>some n) (λ_=>none) (none) (none) (λ_ _ _=>none) (λ_ _ _ _ _=>none) (none) (λ_ _ _=>none) (λ_ _ _ _=>none) (λ_ _=>none) (none) (λ_=>none) (none) (λ_ _ _=>none) (none) (λ_ _ _=>none) (λ_ _=>none) (λ_ _=>none) (none) () (λ_ _ _ _=>()) v
def V.asB (v:V):Option Bool :=
 V.rec (motive_1:=λ_=>Option Bool) (motive_2:=λ_=>Unit) (λb=>some b) (λ_ _=>none) (λ_=>none) (none) (none) (λ_ _ _=>none) (λ_ _ _ _ _=>none) (none) (λ_ _ _=>none) (λ_ _ _ _=>none) (λ_ _=>none) (none) (λ_=>none) (none) (λ_ _ _=>none) (none) (λ_ _ _=>none) (λ_ _=>none) (λ_ _=>none) (none) () (λ_ _ _ _=>()) v
def V.asS (v:V):Option (List UInt8) :=
 V.rec (motive_1:=λ_=>Option (List UInt8)) (motive_2:=λ_=>Unit) (λ_=>none) (λ_ _=>none) (λs=>some s) (none) (none) (λ_ _ _=>none) (λ_ _ _ _ _=>none) (none) (λ_ _ _=>none) (λ_ _ _ _=>none) (λ_ _=>none) (none) (λ_=>none) (none) (λ_ _ _=>none) (none) (λ_ _ _=>none) (λ_ _=>none) (λ_ _=>none) (none) () (λ_ _ _ _=>()) v
def V.asLen (v:V):Option Nat :=
 V.rec (motive_1:=λ_=>Option Nat) (motive_2:=λ_=>Unit) (λ_=>none) (λ_ _=>none) (λ_=>none) (some 0) (some 0) (λxs _ _=>some (BN xs)) (λ_ _ _ len _=>some len) (none) (λ_ _ _=>none) (λ_ _ _ _=>none) (λ_ _=>none) (none) (λ_=>none) (none) (λ_ _ _=>none) (none) (λ_ _ _=>none) (λ_ _=>none) (λ_ _=>none) (none) () (λ_ _ _ _=>()) v
def V.asSl (v:V):SL :=
 V.rec (motive_1:=λ_=>SL) (motive_2:=λ_=>Unit) (λ_=>SL.no) (λ_ _=>SL.no) (λ_=>SL.no) (SL.no) (SL.no) (λxs _ _=>SL.lst xs) (λb ver off len _=>SL.ref b ver off len) (SL.no) (λ_ _ _=>SL.no) (λ_ _ _ _=>SL.no) (λ_ _=>SL.no) (SL.no) (λ_=>SL.no) (SL.no) (λ_ _ _=>SL.no) (SL.no) (λ_ _ _=>SL.no) (λ_ _=>SL.no) (λ_ _=>SL.no) (SL.no) () (λ_ _ _ _=>()) v
def V.asP (v:V):SP :=
 V.rec (motive_1:=λ_=>SP) (motive_2:=λ_=>Unit) (λ_=>SP.no) (λ_ _=>SP.no) (λ_=>SP.no) (SP.no) (SP.no) (λ_ _ _=>SP.no) (λ_ _ _ _ _=>SP.no) (SP.no) (λb ver off=>SP.ptr b ver off) (λxs i j _=>SP.eptr xs i j) (λg off=>SP.gptr g off) (SP.no) (λ_=>SP.no) (SP.no) (λ_ _ _=>SP.no) (SP.no) (λ_ _ _=>SP.no) (λ_ _=>SP.no) (λ_ _=>SP.no) (SP.no) () (λ_ _ _ _=>()) v
def V.asA (v:V):Option (List V) :=
 V.rec (motive_1:=λ_=>Option (List V)) (motive_2:=λ_=>Unit) (λ_=>none) (λ_ _=>none) (λ_=>none) (none) (none) (λ_ _ _=>none) (λ_ _ _ _ _=>none) (none) (λ_ _ _=>none) (λ_ _ _ _=>none) (λ_ _=>none) (none) (λ_=>none) (none) (λ_ _ _=>none) (none) (λ_ _ _=>none) (λcs _=>some cs) (λ_ _=>none) (none) () (λ_ _ _ _=>()) v
def V.asT (v:V):Option (List V) :=
 V.rec (motive_1:=λ_=>Option (List V)) (motive_2:=λ_=>Unit) (λ_=>none) (λ_ _=>none) (λ_=>none) (none) (none) (λ_ _ _=>none) (λ_ _ _ _ _=>none) (none) (λ_ _ _=>none) (λ_ _ _ _=>none) (λ_ _=>none) (none) (λ_=>none) (none) (λ_ _ _=>none) (none) (λ_ _ _=>none) (λ_ _=>none) (λvs _=>some vs) (none) () (λ_ _ _ _=>()) v
def V.isOne (v:V):Bool :=
 V.rec (motive_1:=λ_=>Bool) (motive_2:=λ_=>Unit) (λ_=>true) (λ_ _=>true) (λ_=>true) (true) (true) (λ_ _ _=>true) (λ_ _ _ _ _=>true) (true) (λ_ _ _=>true) (λ_ _ _ _=>true) (λ_ _=>true) (true) (λ_=>true) (true) (λ_ _ _=>true) (true) (λ_ _ _=>true) (λ_ _=>false) (λ_ _=>false) (true) () (λ_ _ _ _=>()) v
def V.isNilP (v:V):Option Bool :=
 V.rec (motive_1:=λ_=>Option Bool) (motive_2:=λ_=>Unit) (λ_=>none) (λ_ _=>none) (λ_=>none) (none) (none) (λ_ _ _=>none) (λ_ _ _ _ _=>none) (some true) (λ_ _ _=>some false) (λ_ _ _ _=>some false) (λ_ _=>some false) (none) (λ_=>none) (none) (λ_ _ _=>none) (none) (λ_ _ _=>none) (λ_ _=>none) (λ_ _=>none) (none) () (λ_ _ _ _=>()) v
def V.isNilI (v:V):Option Bool :=
 V.rec (motive_1:=λ_=>Option Bool) (motive_2:=λ_=>Unit) (λ_=>none) (λ_ _=>none) (λ_=>none) (none) (none) (λ_ _ _=>none) (λ_ _ _ _ _=>none) (none) (λ_ _ _=>none) (λ_ _ _ _=>none) (λ_ _=>none) (none) (λ_=>none) (none) (λ_ _ _=>none) (some true) (λ_ _ _=>some false) (λ_ _=>none) (λ_ _=>none) (none) () (λ_ _ _ _=>()) v
def V.isAdr (v:V):Bool :=
 V.rec (motive_1:=λ_=>Bool) (motive_2:=λ_=>Unit) (λ_=>false) (λ_ _=>false) (λ_=>false) (false) (false) (λ_ _ _=>false) (λ_ _ _ _ _=>false) (false) (λ_ _ _=>true) (λ_ _ _ _=>true) (λ_ _=>true) (false) (λ_=>false) (false) (λ_ _ _=>true) (false) (λ_ _ _=>false) (λ_ _=>false) (λ_ _=>false) (false) () (λ_ _ _ _=>()) v
def V.cellsF (v:V):List V :=
 V.rec (motive_1:=λ_=>List V) (motive_2:=λ_=>Unit) (λ_=>[v]) (λ_ _=>[v]) (λ_=>[v]) ([v]) ([v]) (λ_ _ _=>[v]) (λ_ _ _ _ _=>[v]) ([v]) (λ_ _ _=>[v]) (λ_ _ _ _=>[v]) (λ_ _=>[v]) ([v]) (λ_=>[v]) ([v]) (λ_ _ _=>[v]) ([v]) (λ_ _ _=>[v]) (λcs _=>cs) (λ_ _=>[v]) ([v]) () (λ_ _ _ _=>()) v
theorem V.zAO {v:V} {n:Int} (h:v.asI64=some n):v=.int .i64 n:=by
 cases v<;>first | cases h | (rename_i k m;cases k<;>cases h;rfl)
theorem V.zAN {v:V} {n:Int} (h:v.asI32=some n):v=.int .i32 n:=by
 cases v<;>first | cases h | (rename_i k m;cases k<;>cases h;rfl)
theorem V.zAY {v:V} {n:Int} (h:v.asU8=some n):v=.int .u8 n:=by
 cases v<;>first | cases h | (rename_i k m;cases k<;>cases h;rfl)
theorem V.zAW {v:V} {n:Int} (h:v.asU32=some n):v=.int .u32 n:=by
 cases v<;>first | cases h | (rename_i k m;cases k<;>cases h;rfl)
theorem V.zAX {v:V} {n:Int} (h:v.asU64=some n):v=.int .u64 n:=by
 cases v<;>first | cases h | (rename_i k m;cases k<;>cases h;rfl)
theorem V.zAK {v:V} {n:Int} (h:v.asAI=some n): ∃ k,v=.int k n:=by
 cases v<;>cases h
 exact ⟨_,rfl⟩
theorem V.zAM {v:V} {b:Bool} (h:v.asB=some b):v=.bool b:=by
 cases v<;>cases h
 rfl
theorem V.zAS {v:V} {s:List UInt8} (h:v.asS=some s):v=.str s:=by
 cases v<;>cases h
 rfl
theorem V.zAL {v:V} {s:List V} (h:v.asA=some s):v=.agg s:=by
 cases v<;>cases h
 rfl
theorem V.zAV {v:V} {s:List V} (h:v.asT=some s):v=.tup s:=by
 cases v<;>cases h
 rfl
theorem V.zAh (v:V):v.isOne=v.one:=by cases v<;>rfl
theorem V.zAb (v:V):v.cellsF=v.cells:=by cases v<;>rfl
end
end SS
namespace SS
open Go
noncomputable section
inductive TV where
 | vv (x:V) (one:Bool)
 | ii (k:IntKind) (n:Int)
 | bb (x:Bool)
 | ss (l:List UInt8)
 | aa (cs:List V)
def TV.toV:TV->V
 | .vv x _=>x
 | .ii k n=>.int k n
 | .bb x=>.bool x
 | .ss l=>.str l
 | .aa cs=>.agg cs
def TV.isOne:TV->Bool
 | .vv _ o=>o
 | .aa _=>false
 | _=>true
def TV.ok:TV->Prop
 | .vv x o=>o=true->x.one=true
 | .aa cs=>BO cs=true
 | _=>True
def TV.of:V->TV
 | .int k n=>.ii k n
 | .bool b=>.bb b
 | .str l=>.ss l
 | .agg cs=>bC (BO cs) (.aa cs) (.vv (.agg cs) false)
 | v=>.vv v v.one
def TV.of1:V->TV
 | .int k n=>.ii k n
 | .bool b=>.bb b
 | .str l=>.ss l
 | v=>.vv v true
abbrev SF:=PT TV
abbrev sev (fr:SF):Operand->Option TV
 | .tmp t=>fr.getF t
 | .const v=>match Kj v with
  | some v=>some (TV.of v)
  | none=>none
 | .global g=>some (.vv (.gptr g 0) true)
 | .func f=>some (.vv (.fn f []) true)
abbrev upd (fr:SF):Operand->TV->SF
 | .tmp t,tv=>fr.setR t tv
 | _,_=>fr
section
variable {R:Type}
def AB (v:V) (K:Int->Option R):Option R:=oK v.asI64 K
def PH (v:V) (K:Int->Option R):Option R:=oK v.asI32 K
def u8K (v:V) (K:Int->Option R):Option R:=oK v.asU8 K
def Qc (v:V) (K:Int->Option R):Option R:=oK v.asU32 K
def Hy (v:V) (K:Int->Option R):Option R:=oK v.asU64 K
def aiK (v:V) (K:Int->Option R):Option R:=oK v.asAI K
def boK (v:V) (K:Bool->Option R):Option R:=oK v.asB K
def stK (v:V) (K:List UInt8->Option R):Option R:=oK v.asS K
def agK (v:V) (K:List V->Option R):Option R:=oK v.asA K
def tuK (v:V) (i:Nat) (K:V->Option R):Option R:=oK v.asT λvs=>oK (Dn vs i) K
def onK (v:V) (X:Option R):Option R:=gd v.isOne X
abbrev unI (k:IntKind) (v:V) (K:Int->Option R):Option R :=
 match k with
 | .i64=>AB v K
 | .i32=>PH v K
 | .u8=>u8K v K
 | .u32=>Qc v K
 | .u64=>Hy v K
 | _=>none
abbrev Di (k:IntKind) (fr:SF) (x:Operand) (K:SF->Int->Option R):Option R :=
 match sev fr x with
 | some (.ii k' n)=>bC (DZ k k') (K fr n) (none)
 | some (.vv v _)=>unI k v λn=>K (upd fr x (.ii k n)) n
 | _=>none
abbrev Gj (fr:SF) (x:Operand) (K:Int->Option R):Option R :=
 match sev fr x with
 | some (.ii _ n)=>K n
 | some (.vv v _)=>aiK v K
 | _=>none
abbrev Eu (fr:SF) (x:Operand) (K:SF->Bool->Option R):Option R :=
 match sev fr x with
 | some (.bb n)=>K fr n
 | some (.vv v _)=>boK v λn=>K (upd fr x (.bb n)) n
 | _=>none
abbrev GL (fr:SF) (x:Operand) (K:SF->List UInt8->Option R):Option R :=
 match sev fr x with
 | some (.ss n)=>K fr n
 | some (.vv v _)=>stK v λn=>K (upd fr x (.ss n)) n
 | _=>none
abbrev Bc (fr:SF) (x:Operand) (K:V->Option R):Option R :=
 match sev fr x with
 | some tv=>K tv.toV
 | none=>none
abbrev Jy (fr:SF) (x:Operand) (K:SF->TV->Option R):Option R :=
 match sev fr x with
 | some tv=>bC (tv.isOne) (K fr tv) ((match tv with
  | .vv v _=>onK v (K (upd fr x (.vv v true)) (.vv v true))
  | _=>none))
 | none=>none
abbrev I7 (fr:SF):List Operand->(List V->Option R)->Option R
 | [],K=>K []
 | x :: r,K=>Bc fr x λv=>I7 fr r λvs=>K (v :: vs)
def wrI (k:IntKind) (x:Int) (K:Int->R):R:=iK (k.wrap x) K
def Ab (mx:Nat) (k:IntKind) (x y:Int) (K:Int->R):R :=
 Int.rec (λa=>Int.rec (λb=>Bool.rec (wrI k (x+y) K) (fN (Nat.add a b) λm=>K (.ofNat m)) (Nat.ble (Nat.add a b) mx)) (λb=>Bool.rec (wrI k (x+y) K) (Bool.rec (wrI k (x+y) K) (fN (Nat.sub a (Nat.succ b)) λm=>K (.ofNat m)) (Nat.ble a mx)) (Nat.ble (Nat.succ b) a)) y) (λ_=>wrI k (x+y) K) x
def CQ (mx:Nat) (k:IntKind) (x y:Int) (K:Int->R):R :=
 Int.rec (λa=>Int.rec (λb=>Bool.rec (wrI k (x - y) K) (Bool.rec (wrI k (x - y) K) (fN (Nat.sub a b) λm=>K (.ofNat m)) (Nat.ble a mx)) (Nat.ble b a)) (λ_=>wrI k (x - y) K) y) (λ_=>wrI k (x - y) K) x
def Fx (mx:Nat) (k:IntKind) (x y:Int) (K:Int->R):R :=
 Int.rec (λa=>Int.rec (λb=>Bool.rec (wrI k (x*y) K) (fN (Nat.mul a b) λm=>K (.ofNat m)) (Nat.ble (Nat.mul a b) mx)) (λ_=>wrI k (x*y) K) y) (λ_=>wrI k (x*y) K) x
def cvI (mx:Nat) (k:IntKind) (x:Int) (K:Int->R):R :=
 Int.rec (λa=>Bool.rec (wrI k x K) (fN a λm=>K (.ofNat m)) (Nat.ble a mx)) (λ_=>wrI k x K) x
def CZ (mx:Nat) (k:IntKind) (x y:Int) (K:Int->Option R):Option R :=
 Int.rec (λa=>Int.rec (λb=>Nat.rec none (λp _=>Bool.rec (wrI k (x.tdiv y) K) (fN (Nat.div a (Nat.succ p)) λm=>K (.ofNat m)) (Nat.ble a mx)) b) (λ_=>wrI k (x.tdiv y) K) y) (λ_=>bK (Int.beq' y 0) none (wrI k (x.tdiv y) K)) x
def De (x y:Int) (K:Int->Option R):Option R :=
 Int.rec (λa=>Int.rec (λb=>Nat.rec none (λp _=>fN (Nat.mod a (Nat.succ p)) λm=>K (.ofNat m)) b) (λ_=>iK (x.tmod y) K) y) (λ_=>bK (Int.beq' y 0) none (iK (x.tmod y) K)) x
def ioK (op:BinOp) (k:IntKind) (x y:Int) (K:V->Option R):Option R:=oK (Fv op k x y) K
def shK (op:BinOp) (k:IntKind) (x y:Int) (K:V->Option R):Option R:=oK (Mv op k x y) K
end
def ltI (x y:Int):Bool:=Int.rec (λa=>Int.rec (λb=>Nat.ble (Nat.succ a) b) (λ_=>false) y) (λa=>Int.rec (λ_=>true) (λb=>Nat.ble (Nat.succ b) a) y) x
def leI (x y:Int):Bool:=Int.rec (λa=>Int.rec (λb=>Nat.ble a b) (λ_=>false) y) (λa=>Int.rec (λ_=>true) (λb=>Nat.ble b a) y) x
def eqI (x y:Int):Bool:=Int.rec (λa=>Int.rec (λb=>Nat.beq a b) (λ_=>false) y) (λa=>Int.rec (λ_=>false) (λb=>Nat.beq a b) y) x
def ntB (b:Bool):Bool:=Bool.rec true false b
def eqB (a b:Bool):Bool:=Bool.rec (ntB b) b a
abbrev EM:IntKind->Nat
 | .i8=>127 | .i16=>32767 | .i32=>2147483647 | .i64=>9223372036854775807
 | .u8=>255 | .u16=>65535 | .u32=>4294967295 | .u64=>18446744073709551615
def eqS (l m:List UInt8):Bool :=
 List.rec (motive:=λ_=>List UInt8->Bool) (λm=>List.rec true (λ_ _ _=>false) m) (λa _ ih m=>List.rec false (λb u _=>Bool.rec false (ih u) (Nat.beq a.toNat b.toNat)) m) l m
section
variable {R:Type}
def Ak (l m:List UInt8) (K:List UInt8->Option R):Option R:=gd (Nat.ble (Nat.add (BN l) (BN m)) 9223372036854775807) (K (GU l m))
def Cr (l:List UInt8) (i:Int) (K:Int->Option R):Option R:=Int.rec (λn=>oK (Dn l n) λb=>fN b.toNat λm=>K (.ofNat m)) (λ_=>none) i
def lnS (l:List UInt8) (K:Int->R):R:=fN (BN l) λn=>K (.ofNat n)
def slS (s:List UInt8) (l h:Nat) (K:List UInt8->Option R):Option R:=gd (Nat.ble l h) (gd (Nat.ble h (BN s)) (K (Cc (EG s l) (Nat.sub h l))))
def Bo (i:Int) (K:Nat->Option R):Option R:=Int.rec K (λ_=>none) i
def lnK (v:V) (K:Int->Option R):Option R:=oK v.asLen λn=>fN n λm=>K (.ofNat m)
def bk1 (σ:St) (b ver off:Nat) (K:V->Option R):Option R :=
 oK (σ.getF b) λo=>AO.rec (λcs _ ver' _=>gd (Nat.beq ver ver') (oK (Dn cs off) λv=>gd v.isOne (K v))) (λ_ _=>none) o
def bkN (σ:St) (n b ver off:Nat) (K:V->Option R):Option R :=
 oK (σ.getF b) λo=>AO.rec (λcs _ ver' _=>gd (Nat.beq ver ver') ((λr=>gd (Nat.beq (BN r) n) (K (.agg r))) (Cc (EG cs off) n))) (λ_ _=>none) o
def el1 (x:V) (off:Nat) (K:V->Option R):Option R:=oK (Dn x.cellsF off) λv=>gd v.isOne (K v)
def elN (x:V) (n off:Nat) (K:V->Option R):Option R:=(λr=>gd (Nat.beq (BN r) n) (K (.agg r))) (Cc (EG x.cellsF off) n)
def ld1 (E:Env) (x:V) (off:Nat) (σ:St) (K:V->Option R):Option R :=
 SP.rec none (λb ver o=>bk1 σ b ver (Nat.add o off) K) (λxs i j=>oK (Dn xs i) λe=>el1 e (Nat.add j off) K) (λg o=>oK (E.G g) λcs=>oK (Dn cs (Nat.add o off)) λv=>gd v.isOne (K v)) x.asP
def ldN (E:Env) (n:Nat) (x:V) (off:Nat) (σ:St) (K:V->Option R):Option R :=
 SP.rec none (λb ver o=>bkN σ n b ver (Nat.add o off) K) (λxs i j=>oK (Dn xs i) λe=>elN e n (Nat.add j off) K) (λg o=>oK (E.G g) λcs=>(λr=>gd (Nat.beq (BN r) n) (K (.agg r))) (Cc (EG cs (Nat.add o off)) n)) x.asP
def AZ (sz:Nat) (x:V) (i:Int) (off:Nat) (σ:St) (K:V->Option R):Option R :=
 Bo i λn=>SL.rec none (λxs=>oK (Dn xs n) λe=>gd (Nat.beq (BN e.cellsF) sz) (el1 e off K)) (λb ver o len=>gd (Nat.ble (Nat.succ n) len) (bk1 σ b ver (Nat.add o (Nat.add (Nat.mul n sz) off)) K)) x.asSl
def Bw (sz n:Nat) (x:V) (i:Int) (off:Nat) (σ:St) (K:V->Option R):Option R :=
 Bo i λm=>SL.rec none (λxs=>oK (Dn xs m) λe=>gd (Nat.beq (BN e.cellsF) sz) (elN e n off K)) (λb ver o len=>gd (Nat.ble (Nat.succ m) len) (bkN σ n b ver (Nat.add o (Nat.add (Nat.mul m sz) off)) K)) x.asSl
def bs1 (σ:St) (b ver off:Nat) (v:V) (K:St->Option R):Option R :=
 oK (σ.getF b) λo=>AO.rec (λcs ty ver' fz=>Bool.rec (gd (Nat.beq ver ver') (gd (Nat.ble (Nat.succ off) (BN cs)) (σ.putK b (.blk (K0 cs off v) ty ver' false) K))) none fz) (λ_ _=>none) o
def st1 (x:V) (off:Nat) (v:V) (σ:St) (K:St->Option R):Option R :=
 SP.rec none (λb ver o=>bs1 σ b ver (Nat.add o off) v K) (λ_ _ _=>none) (λ_ _=>none) x.asP
def K5 (sz:Nat) (x:V) (i:Int) (off:Nat) (v:V) (σ:St) (K:St->Option R):Option R :=
 Bo i λn=>SL.rec none (λ_=>none) (λb ver o len=>gd (Nat.ble (Nat.succ n) len) (bs1 σ b ver (Nat.add o (Nat.add (Nat.mul n sz) off)) v K)) x.asSl
def nV (x:V) (X:Option R):Option R:=gd x.isAdr X
def ptK (x:V) (K:Bool->Option R):Option R:=oK x.isNilP K
def ifK (x:V) (K:Bool->Option R):Option R:=oK x.isNilI K
def f1K (x:V) (off:Nat) (K:V->Option R):Option R:=oK x.asA λcs=>oK (Dn cs off) λv=>gd v.isOne (K v)
def fNK (x:V) (n off:Nat) (K:V->Option R):Option R:=oK x.asA λcs=>(λr=>gd (Nat.beq (BN r) n) (K (.agg r))) (Cc (EG cs off) n)
end
end
end SS
namespace SS
open Go
noncomputable section
inductive SA where
 | no
 | nil
 | lst (xs:List V)
 | ref (b ver off len:Nat) (cap:Option Nat)
def V.asSA (v:V):SA :=
 V.rec (motive_1:=λ_=>SA) (motive_2:=λ_=>Unit) (λ_=>SA.no) (λ_ _=>SA.no) (λ_=>SA.no) (SA.nil) (SA.no) (λxs full _=>Bool.rec SA.no (SA.lst xs) full) (λb ver off len cap=>SA.ref b ver off len cap) (SA.no) (λ_ _ _=>SA.no) (λ_ _ _ _=>SA.no) (λ_ _=>SA.no) (SA.no) (λ_=>SA.no) (SA.no) (λ_ _ _=>SA.no) (SA.no) (λ_ _ _=>SA.no) (λ_ _=>SA.no) (λ_ _=>SA.no) (SA.no) () (λ_ _ _ _=>()) v
section
variable {R:Type}
def Kl (cs:List V) (off m:Nat):List V:=Nat.rec (bK (Nat.beq (BN cs) m) cs (Cc cs m)) (λp _=>Cc (EG cs (Nat.succ p)) m) off
def P9 (xs:List V) (l:Nat):List V:=List.rec [] (λx _ ih=>GU x.cellsF ih) (Cc xs l)
def BQ (elem sz:Nat) (n:Nat) (new:List V) (s:V) (σ:St) (K:V->St->Option R):Option R :=
 oK s.asLen λl=>fN (Nat.add l n) λneed=>gd (Nat.ble need 4294967296)
  (SA.rec none
    (σ.newK (.blk new elem 0 false) λb σ'=>K (.ref b 0 0 need none) σ')
    (λxs=>(λr=>gd (Nat.beq (BN r) (Nat.mul l sz)) (σ.newK (.blk (GU r new) elem 0 false) λb σ'=>K (.ref b 0 0 need none) σ')) (P9 xs l))
    (λb ver off _ cap=>oK (σ.getF b) λo=>AO.rec (λcs ty ver' fz=>Bool.rec (gd (Nat.beq ver ver')
      (Option.rec
        (gd (Nat.beq ty elem) (bK (Nat.ble (Nat.add off (Nat.mul need sz)) (BN cs))
          (oK (Ca cs (Nat.add off (Nat.mul l sz)) new) λcs'=>σ.putK b (.blk cs' ty ver false) λσ'=>K (.ref b ver off need none) σ')
          (gd (Nat.ble (Nat.add off (Nat.mul l sz)) (BN cs)) (fN (Nat.succ ver) λver2=>σ.putK b (.blk (GU (Kl cs off (Nat.mul l sz)) new) ty ver2 false) λσ'=>K (.ref b ver2 0 need none) σ'))))
        (λc=>bK (Nat.ble need c)
          (oK (Ca cs (Nat.add off (Nat.mul l sz)) new) λcs'=>σ.putK b (.blk cs' ty ver false) λσ'=>K (.ref b ver off need cap) σ')
          (gd (Nat.ble (Nat.add off (Nat.mul l sz)) (BN cs)) (σ.newK (.blk (GU (Cc (EG cs off) (Nat.mul l sz)) new) elem 0 false) λnb σ'=>K (.ref nb 0 0 need none) σ')))
        cap)) none fz) (λ_ _=>none) o)
    s.asSA)
end
end
end SS
namespace SS
open Go
noncomputable section
section
variable {R:Type}
abbrev Kt (R:Type):=SF->TV->St->Option R
abbrev Kn (fr:SF):Option Operand->(SF->Option V->Option R)->Option R
 | none,K=>K fr none
 | some x,K=>Bc fr x λv=>K fr (some v)
def Lb (op:BinOp) (k:IntKind) (x y:Int) (K:TV->Option R):Option R :=
 match op with
 | .add=>Ab (EM k) k x y λn=>K (.ii k n)
 | .sub=>CQ (EM k) k x y λn=>K (.ii k n)
 | .mul=>Fx (EM k) k x y λn=>K (.ii k n)
 | .quo=>CZ (EM k) k x y λn=>K (.ii k n)
 | .rem=>De x y λn=>K (.ii k n)
 | .eql=>K (.bb (eqI x y))
 | .neq=>K (.bb (ntB (eqI x y)))
 | .lss=>K (.bb (ltI x y))
 | .leq=>K (.bb (leI x y))
 | .gtr=>K (.bb (ltI y x))
 | .geq=>K (.bb (leI y x))
 | op=>ioK op k x y λv=>K (.vv v false)
def QP (op:BinOp) (x y:List UInt8) (K:TV->Option R):Option R :=
 match op with
 | .add=>Ak x y λl=>K (.ss l)
 | .eql=>K (.bb (eqS x y))
 | .neq=>K (.bb (ntB (eqS x y)))
 | op=>oK (K6 op x y) λv=>K (.vv v false)
def PR:Operand->Bool
 | .const (.pointer none)=>true
 | _=>false
def isNilI:Operand->Bool
 | .const .nilIface=>true
 | _=>false
def KU (E:Env) (op:BinOp) (t:TypeId) (fr:SF) (x y:Operand) (σ:St) (K:Kt R):Option R :=
 Bc fr x λa=>Bc fr y λb=>oK (CW E op t x y a b σ) λv=>K fr (.vv v false) σ
def N8 (E:Env) (op:BinOp) (t:TypeId) (fr:SF) (x y:Operand) (yt:TypeId) (σ:St) (K:Kt R):Option R :=
 match E.P.underlying t with
 | some (.int k) =>
  match op with
  | .shl | .shr=>match E.P.underlying yt with
   | some (.int k')=>Di k fr x λfr a=>Di k' fr y λfr b=>shK op k a b λv=>K fr (.vv v false) σ
   | _=>none
  | _=>Di k fr x λfr a=>Di k fr y λfr b=>Lb op k a b λv=>K fr v σ
 | some .string=>GL fr x λfr a=>GL fr y λfr b=>QP op a b λv=>K fr v σ
 | some .bool=>match op with
  | .eql=>Eu fr x λfr a=>Eu fr y λfr b=>K fr (.bb (eqB a b)) σ
  | .neq=>Eu fr x λfr a=>Eu fr y λfr b=>K fr (.bb (ntB (eqB a b))) σ
  | _=>none
 | some (.pointer _)=>bC (PR y) ((match op with
  | .eql=>Bc fr x λa=>ptK a λb=>K fr (.bb b) σ
  | .neq=>Bc fr x λa=>ptK a λb=>K fr (.bb (ntB b)) σ
  | _=>none)) (KU E op t fr x y σ K)
 | some (.interface _)=>bC (isNilI y) ((match op with
  | .eql=>Bc fr x λa=>ifK a λb=>K fr (.bb b) σ
  | .neq=>Bc fr x λa=>ifK a λb=>K fr (.bb (ntB b)) σ
  | _=>none)) (KU E op t fr x y σ K)
 | _=>KU E op t fr x y σ K
abbrev Kr (fr:SF):List (Nat×Operand)->(SF->List (Nat×TV)->Option R)->Option R
 | [],K=>K fr []
 | (i,x) :: r,K=>Jy fr x λfr v=>Kr fr r λfr l=>K fr ((i,v) :: l)
def Ms (place:Nat->Nat):List (Nat×TV)->List V->List V
 | [],cs=>cs
 | (i,v) :: r,cs=>Ms place r (cs.set (place i) v.toV)
def Us (P:Program) (fs:Array Field) (n:Nat) (ps:List (Nat×Operand)):Bool :=
 ps.all λp=>match fs[p.1]? with
  | some f=>(match P.info? f.type with | some i=>Nat.beq i.size 1 | none=>false)&&Nat.blt f.offset n
  | none=>false
def MZ (fs:Array Field) (i:Nat):Nat:=match fs[i]? with | some f=>f.offset | none=>0
abbrev Jj (fr:SF):List (Nat×Operand)->(List (Nat×V)->Option R)->Option R
 | [],K=>K []
 | (i,x) :: r,K=>Bc fr x λv=>Jj fr r λl=>K ((i,v) :: l)
def OB (E:Env) (t:TypeId) (ps:List (Nat×Operand)) (fr:SF) (σ:St) (K:Kt R):Option R :=
 match Cm E.P t,E.P.underlying t with
 | some (.agg z),some (.struct fs) =>
  bC (Us E.P fs z.length ps&&(Ht E.P fs.toList).isSome&&BO z) (Kr fr ps λfr l=>K fr (.aa (Ms (MZ fs) l z)) σ) (Jj fr ps λl=>oK (CD E t l) λv=>K fr (.vv v false) σ)
 | _,_=>Jj fr ps λl=>oK (CD E t l) λv=>K fr (.vv v false) σ
def Pe (E:Env) (t:TypeId) (fr:SF) (a:Operand) (σ:St) (K:Kt R):Option R :=
 match E.P.info? t,E.P.underlying t with
 | some i,some d=>Bc fr a λp=>bC (Be d) (ldN E i.size p 0 σ λv=>K fr (.vv v false) σ) (ld1 E p 0 σ λv=>K fr (.vv v true) σ)
 | _,_=>none
def Dh:TV:=.vv (.tup []) false
def QN (E:Env) (t:TypeId) (fr:SF) (a x:Operand) (σ:St) (K:Kt R):Option R :=
 match E.P.info? t,E.P.underlying t with
 | some i,some d=>Bc fr a λp =>
  bC (Be d||!Nat.beq i.size 1) (Bc fr x λv=>oK (storeAt E t p v σ) λσ'=>K fr Dh σ') (Jy fr x λfr v=>st1 p 0 v.toV σ λσ'=>K fr Dh σ')
 | _,_=>none
def S9 (E:Env) (s:TypeId) (fr:SF) (x:Operand) (f:Nat) (σ:St) (K:Kt R):Option R :=
 Bc fr x λp=>oK (fieldAt E s p f) λv=>K fr (.vv v true) σ
def Ow (E:Env) (s:TypeId) (fr:SF) (x:Operand) (f:Nat) (σ:St) (K:Kt R):Option R :=
 match E.P.underlying s with
 | some (.struct fs)=>match fs[f]? with
  | some fd=>match E.P.info? fd.type,E.P.underlying fd.type with
   | some i,some d=>match sev fr x with
    | some (.aa cs)=>bC (Be d) ((match E4 E s (.agg cs) f with | some v=>K fr (.vv v false) σ | none=>none)) ((match cs[fd.offset]? with | some v=>K fr (.of1 v) σ | none=>none))
    | some (.vv v _)=>bC (Be d) (fNK v i.size fd.offset λv=>K fr (.vv v false) σ) (f1K v fd.offset λv=>K fr (.vv v true) σ)
    | _=>none
   | _,_=>none
  | none=>none
 | _=>none
def PJ (E:Env) (t:TypeId) (fr:SF) (x i:Operand) (σ:St) (K:Kt R):Option R :=
 match E.P.underlying t with
 | some .string=>GL fr x λfr l=>Gj fr i λn=>Cr l n λb=>K fr (.ii .u8 b) σ
 | _=>Bc fr x λv=>Bc fr i λn=>oK (Cn E t v n) λv=>K fr (.vv v false) σ
def QI (E:Env) (t:TypeId) (fr:SF) (x:Operand) (lo hi mx:Option Operand) (σ:St) (K:Kt R):Option R :=
 match E.P.underlying t,lo,hi,mx with
 | some .string,none,some h,none=>GL fr x λfr s=>Gj fr h λh=>Bo h λh=>slS s 0 h λl=>K fr (.ss l) σ
 | some .string,some l,none,none=>GL fr x λfr s=>Gj fr l λl=>Bo l λl=>slS s l (BN s) λl=>K fr (.ss l) σ
 | some .string,some l,some h,none=>GL fr x λfr s=>Gj fr l λl=>Gj fr h λh=>Bo l λl=>Bo h λh=>slS s l h λl=>K fr (.ss l) σ
 | _,_,_,_=>Bc fr x λv=>Kn fr lo λfr l=>Kn fr hi λfr h=>Kn fr mx λfr m=>oK (sliceAt E t v l h m σ) λv=>K fr (.vv v true) σ
def opS (E:Env) (fr:SF) (o:Op) (σ:St) (K:Kt R):Option R :=
 match o with
 | .move x | .assign x=>match sev fr x with
  | some v=>K fr v σ
  | none=>none
 | .pick c a b=>Eu fr c λfr c=>match sev fr a,sev fr b with
  | some (.bb p),some (.bb q)=>K fr (.bb (bK c p q)) σ
  | some (.ii k p),some (.ii k' q)=>bC (DZ k k') (K fr (.ii k (bK c p q)) σ) (none)
  | some p,some (.vv (.tup []) false)=>bC c (K fr p σ) (K fr Dh σ)
  | some (.vv (.tup []) false),some q=>bC c (K fr Dh σ) (K fr q σ)
  | some p,some q=>K fr (.vv (bK c p.toV q.toV) (p.isOne&&q.isOne)) σ
  | _,_=>none
 | .alloc t=>match Cm E.P t with
  | some z=>σ.newK (.blk z.cells t 0 false) λb σ'=>K fr (.vv (.ptr b 0 0) true) σ'
  | none=>none
 | .box t x=>match sev fr x with
  | some v=>σ.newK (.blk (bC (v.isOne) ([v.toV]) (v.toV.cellsF)) t 0 false) λb σ'=>K fr (.vv (.ptr b 0 0) true) σ'
  | none=>none
 | .build t ps=>OB E t ps.toList fr σ K
 | .buildSlice t len ps=>Jj fr ps.toList λl=>pK (Cq E t len l σ) λv σ'=>K fr (.vv v true) σ'
 | .load t a=>Pe E t fr a σ K
 | .store t a x=>QN E t fr a x σ K
 | .nilCheck x=>Bc fr x λv=>nV v (K fr (.vv v true) σ)
 | .binOp op t x y yt=>N8 E op t fr x y yt σ K
 | .unOp .not _ x=>Eu fr x λfr b=>K fr (.bb (ntB b)) σ
 | .unOp .neg t x=>match E.P.underlying t with
  | some (.int k)=>Di k fr x λfr n=>CQ (EM k) k 0 n λm=>K fr (.ii k m) σ
  | _=>none
 | .unOp op _ x=>Bc fr x λv=>oK (unV op v) λv=>K fr (.vv v false) σ
 | .convert s d x=>match E.P.underlying s,E.P.underlying d with
  | some (.int k),some (.int k')=>Di k fr x λfr n=>cvI (EM k') k' n λm=>K fr (.ii k' m) σ
  | some .string,some .string=>GL fr x λfr l=>K fr (.ss l) σ
  | _,_=>bC (FB E s d) (Bc fr x λv=>pK (Io E s d v σ) λv σ'=>K fr (.vv v true) σ') (Bc fr x λv=>oK (GW E s d v σ) λv=>K fr (.vv v true) σ)
 | .makeInterface t x=>match E.P.underlying t with
  | some (.interface _) | none=>none
  | some _=>Bc fr x λv=>K fr (.vv (.ifc t v) true) σ
 | .makeFunc (.func f) first cap=>bC (first.isEmpty) (I7 fr cap.toList λvs=>K fr (.vv (.fn f vs) true) σ) (none)
 | .makeMap t none=>match E.P.underlying t with
  | some (.map ..)=>σ.newK (.map [] 0) λb σ'=>K fr (.vv (.map b) true) σ'
  | _=>none
 | .makeMap t (some r)=>match E.P.underlying t with
  | some (.map ..)=>Di .i64 fr r λfr _=>σ.newK (.map [] 0) λb σ'=>K fr (.vv (.map b) true) σ'
  | _=>none
 | .makeSlice t l c=>Di .i64 fr l λfr l=>Di .i64 fr c λfr c=>pK (Da E t (.int .i64 l) (.int .i64 c) σ) λv σ'=>K fr (.vv v true) σ'
 | .slice t x lo hi mx=>QI E t fr x lo hi mx σ K
 | .fieldAddr s x f=>S9 E s fr x f σ K
 | .field s x f=>Ow E s fr x f σ K
 | .indexAddr t x i=>Bc fr x λv=>Gj fr i λn=>oK (indexAt E t v (.int .i64 n)) λv=>K fr (.vv v true) σ
 | .index t x i=>PJ E t fr x i σ K
 | .lookup t m k ok=>Bc fr m λm=>Bc fr k λk=>oK (Ik E t m k ok σ) λv=>K fr (.vv v false) σ
 | .mapUpdate t m k x | .insert t m k x=>Bc fr m λm=>Bc fr k λk=>Bc fr x λx=>oK (Im E t m k x σ) λσ'=>K fr Dh σ'
 | .mapEntry t m k=>Bc fr m λm=>Bc fr k λk=>pK (MM E t m k σ) λv σ'=>K fr (.vv v false) σ'
 | .entryStore _ m s x=>Bc fr m λm=>Bc fr s λs=>Bc fr x λx=>oK (Lp m s x σ) λσ'=>K fr Dh σ'
 | .extract t i=>Bc fr t λt=>tuK t i λv=>K fr (.vv v false) σ
 | _=>none
def OC (E:Env) (b:Builtin) (ts:List TypeId) (xs:List Operand) (fr:SF) (σ:St) (K:Kt R):Option R :=
 match b,ts,xs with
 | .len,t :: _,[x]=>match E.P.underlying t with
  | some .string=>GL fr x λfr l=>lnS l λn=>K fr (.ii .i64 n) σ
  | some (.slice _)=>Bc fr x λv=>lnK v λn=>K fr (.ii .i64 n) σ
  | _=>Bc fr x λv=>oK (Gb E t v σ) λv=>K fr (.vv v true) σ
 | .min,t :: _,[x,y]=>match E.P.underlying t with
  | some (.int k)=>Di k fr x λfr a=>Di k fr y λfr b=>K fr (.ii k (bK (ltI b a) b a)) σ
  | _=>none
 | .max,t :: _,[x,y]=>match E.P.underlying t with
  | some (.int k)=>Di k fr x λfr a=>Di k fr y λfr b=>K fr (.ii k (bK (ltI a b) b a)) σ
  | _=>none
 | b,ts,xs=>I7 fr xs λvs=>pK (DC E b ts vs σ) λv σ'=>K fr (.vv v false) σ'
def JK (call:Call) (g:V) (vs:List V) (σ:St):Option (V×St) :=
 match g with
 | .fn f cap=>call f (vs++cap) σ
 | _=>none
def Ld (E:Env) (call:Call) (pu:FuncId->Bool) (c:Go.Call) (fr:SF) (σ:St) (K:Kt R):Option R :=
 match c.callee with
 | .builtin b=>OC E b c.argTypes.toList c.args.toList fr σ K
 | .value (.func f)=>I7 fr c.args.toList λvs =>
  bC (pu f) (pK (call f vs σ) λv _=>K fr (.vv v false) σ) (pK (call f vs σ) λv σ'=>K fr (.vv v false) σ')
 | .value f=>Bc fr f λg=>I7 fr c.args.toList λvs=>pK (JK call g vs σ) λv σ'=>K fr (.vv v false) σ'
 | .invoke ..=>none
end
end
end SS
namespace SS
open Go
structure Av (fr:SF) (F:Fr):Prop where
 get: ∀ t tv,PT.get fr t=some tv->F.t.get t=some tv.toV/\tv.ok
section
variable {R:Type} {fr:SF} {F:Fr} {r:R} {E:Env} {σ:St}
theorem Av.set (h:Av fr F) {t:Nat} {tv:TV} (h1:F.t.get t=some tv.toV) (h2:tv.ok):Av (fr.setR t tv) F:=⟨λu tu hu=>by
 rw [PT.zAu,PT.get_set] at hu;split at hu
 ·rename_i e;subst e;cases hu;exact ⟨h1,h2⟩
 ·exact h.get u tu hu⟩
theorem TV.of_toV (v:V):(TV.of v).toV=v:=by
 cases v<;>first | rfl | skip
 rename_i cs;show (bC (BO cs) (TV.aa cs) (.vv (.agg cs) false)).toV=.agg cs;cases BO cs<;>rfl
theorem TV.of_ok (v:V):(TV.of v).ok:=by
 cases v<;>first | trivial | (intro h;exact h) | skip
 rename_i cs;show (bC (BO cs) (TV.aa cs) (.vv (.agg cs) false)).ok;cases h:BO cs with
 | true=>exact h
 | false=>intro h;cases h
theorem TV.zAk (v:V):(TV.of1 v).toV=v:=by cases v<;>rfl
theorem TV.of1_ok {v:V} (h:v.one=true):(TV.of1 v).ok:=by cases v<;>first | trivial | (intro _;exact h)
theorem TV.zAo {tv:TV} (h:tv.ok) (h1:tv.isOne=true):tv.toV.one=true:=by
 cases tv with
 | vv x o=>exact h h1
 | aa cs=>cases h1
 | _=>rfl
theorem CP {x:Operand} {tv:TV} (hf:Av fr F) (h:sev fr x=some tv):F.ev x=some tv.toV/\tv.ok:=by
 cases x with
 | tmp t=>exact hf.get t tv (by rw [<-PT.getF_eq];exact h)
 | const v =>
  unfold sev at h;simp only at h;split at h
  ·rename_i v' hv;cases h;exact ⟨by rw [TV.of_toV];exact hv,TV.of_ok _⟩
  ·cases h
 | global g=>cases h;exact ⟨rfl,λ_=>rfl⟩
 | func f=>cases h;exact ⟨rfl,λ_=>rfl⟩
theorem NL {x:Operand} {tv:TV} (hf:Av fr F) (h:F.ev x=some tv.toV) (ho:tv.ok):Av (upd fr x tv) F:=by
 cases x with
 | tmp t=>exact hf.set h ho
 | _=>exact hf
theorem Bq {x:Operand} {K:V->Option R} (h:Bc fr x K=some r) (hf:Av fr F): ∃ v,F.ev x=some v/\K v=some r:=by
 unfold Bc at h;split at h
 ·rename_i tv ht;exact ⟨_,(CP hf ht).1,h⟩
 ·cases h
theorem wN {k:IntKind} {v:V} {K:Int->Option R} (h:unI k v K=some r): ∃ n,v=.int k n/\K n=some r:=by
 cases k<;>first | cases h | skip
 ·obtain ⟨n,h1,h2⟩:=BR h;exact ⟨n,V.zAN h1,h2⟩
 ·obtain ⟨n,h1,h2⟩:=BR h;exact ⟨n,V.zAO h1,h2⟩
 ·obtain ⟨n,h1,h2⟩:=BR h;exact ⟨n,V.zAY h1,h2⟩
 ·obtain ⟨n,h1,h2⟩:=BR h;exact ⟨n,V.zAW h1,h2⟩
 ·obtain ⟨n,h1,h2⟩:=BR h;exact ⟨n,V.zAX h1,h2⟩
theorem kEq {a b:IntKind} (h:DZ a b=true):a=b:=by cases a<;>cases b<;>first | rfl | cases h
theorem Ev {k:IntKind} {x:Operand} {K:SF->Int->Option R} (h:Di k fr x K=some r) (hf:Av fr F): ∃ fr' n,F.ev x=some (.int k n)/\Av fr' F/\K fr' n=some r:=by
 unfold Di at h;split at h
 ·rename_i k' n ht;cases hk:DZ k k' with
  | true=>rw [hk] at h;have:=kEq hk;subst this;exact ⟨fr,n,(CP hf ht).1,hf,h⟩
  | false=>rw [hk] at h;cases h
 ·rename_i v o ht;obtain ⟨n,rfl,h2⟩:=wN h;exact ⟨_,n,(CP hf ht).1,NL (tv:=.ii k n) hf (CP hf ht).1 trivial,h2⟩
 ·cases h
theorem I6 {x:Operand} {K:Int->Option R} (h:Gj fr x K=some r) (hf:Av fr F): ∃ k n,F.ev x=some (.int k n)/\K n=some r:=by
 unfold Gj at h;split at h
 ·rename_i k n ht;exact ⟨k,n,(CP hf ht).1,h⟩
 ·rename_i v o ht;obtain ⟨n,h1,h2⟩:=BR h;obtain ⟨k,rfl⟩:=V.zAK h1;exact ⟨k,n,(CP hf ht).1,h2⟩
 ·cases h
theorem FZ {x:Operand} {K:SF->Bool->Option R} (h:Eu fr x K=some r) (hf:Av fr F): ∃ fr' n,F.ev x=some (.bool n)/\Av fr' F/\K fr' n=some r:=by
 unfold Eu at h;split at h
 ·rename_i n ht;exact ⟨fr,n,(CP hf ht).1,hf,h⟩
 ·rename_i v o ht;obtain ⟨n,h1,h2⟩:=BR h;have:=V.zAM h1;subst this;exact ⟨_,n,(CP hf ht).1,NL (tv:=.bb n) hf (CP hf ht).1 trivial,h2⟩
 ·cases h
theorem H5 {x:Operand} {K:SF->List UInt8->Option R} (h:GL fr x K=some r) (hf:Av fr F): ∃ fr' n,F.ev x=some (.str n)/\Av fr' F/\K fr' n=some r:=by
 unfold GL at h;split at h
 ·rename_i n ht;exact ⟨fr,n,(CP hf ht).1,hf,h⟩
 ·rename_i v o ht;obtain ⟨n,h1,h2⟩:=BR h;have:=V.zAS h1;subst this;exact ⟨_,n,(CP hf ht).1,NL (tv:=.ss n) hf (CP hf ht).1 trivial,h2⟩
 ·cases h
theorem Qi {x:Operand} {K:SF->TV->Option R} (h:Jy fr x K=some r) (hf:Av fr F): ∃ fr' tv,F.ev x=some tv.toV/\tv.toV.one=true/\Av fr' F/\K fr' tv=some r:=by
 unfold Jy at h;split at h
 ·rename_i tv ht;obtain ⟨h1,h2⟩:=CP hf ht;cases ho:tv.isOne with
  | true=>rw [ho] at h;exact ⟨fr,tv,h1,TV.zAo h2 ho,hf,h⟩
  | false =>
   rw [ho] at h;simp only [bC] at h;split at h
   ·rename_i v o;obtain ⟨h3,h4⟩:=CO h;rw [V.zAh] at h3;exact ⟨_,.vv v true,h1,h3,NL (tv:=.vv v true) hf h1 (λ_=>h3),h4⟩
   ·cases h
 ·cases h
theorem LD: ∀ {xs:List Operand} {K:List V->Option R},I7 fr xs K=some r->Av fr F->∃ vs,evs F.ev xs=some vs/\K vs=some r
 | [],K,h,_=>⟨[],rfl,h⟩
 | x :: xs,K,h,hf=>by
  obtain ⟨v,h1,h2⟩:=Bq (show Bc fr x _=some r from h) hf;obtain ⟨vs,h3,h4⟩:=LD h2 hf;exact ⟨v :: vs,by simp [evs,h1,h3],h4⟩
theorem Px: ∀ {ps:List (Nat×Operand)} {K:List (Nat×V)->Option R},Jj fr ps K=some r->Av fr F->∃ l,D5 F.ev ps=some l/\K l=some r
 | [],K,h,_=>⟨[],rfl,h⟩
 | (i,x) :: xs,K,h,hf=>by
  obtain ⟨v,h1,h2⟩:=Bq (show Bc fr x _=some r from h) hf;obtain ⟨vs,h3,h4⟩:=Px h2 hf;exact ⟨(i,v) :: vs,by simp [D5,h1,h3],h4⟩
theorem Pw: ∀ {ps:List (Nat×Operand)} {fr:SF} {K:SF->List (Nat×TV)->Option R},Kr fr ps K=some r->Av fr F ->
 ∃ fr' l,D5 F.ev ps=some (l.map λp=>(p.1,p.2.toV))/\(∀ p∈l,p.2.toV.one=true)/\l.map (·.1)=ps.map (·.1)/\Av fr' F/\K fr' l=some r
 | [],fr,K,h,hf=>⟨fr,[],rfl,(by simp),rfl,hf,h⟩
 | (i,x) :: xs,fr,K,h,hf=>by
  obtain ⟨fr1,tv,h1,h2,h3,h4⟩:=Qi (show Jy fr x _=some r from h) hf;obtain ⟨fr2,l,h5,h6,h7,h8,h9⟩:=Pw h4 h3;refine ⟨fr2,(i,tv) :: l,by simp [D5,h1,h5],λp hp=>?_,by simp [h7],h8,h9⟩;rcases List.mem_cons.1 hp with rfl | hp
  ·exact h2
  ·exact h6 p hp
theorem Pp {x:Option Operand} {K:SF->Option V->Option R} (h:Kn fr x K=some r) (hf:Av fr F): ∃ fr' v,Ct F.ev x=some v/\Av fr' F/\K fr' v=some r:=by
 cases x with
 | none=>exact ⟨fr,none,rfl,hf,h⟩
 | some x =>
  unfold Kn at h;obtain ⟨v,h1,h2⟩:=Bq h hf;exact ⟨fr,some v,by simp [Ct,h1],hf,h2⟩
theorem Nr {mx:Nat} {k:IntKind} (hm:mx=EM k) (x y:Int) (K:Int->R):Ab mx k x y K=K (k.wrap (x+y)):=by
 have hw: ∀ m:Nat,m<=mx->k.wrap (m:Int)=m:=by
  intro m h;subst hm;unfold IntKind.wrap;cases k<;>simp [EM,IntKind.bits,IntKind.signed] at h ⊢<;>omega
 unfold Ab wrI;cases x with
 | negSucc a=>exact C4 _ _
 | ofNat a =>
  cases y with
  | ofNat b =>
   show Bool.rec (motive:=λ_=>R) _ _ (Nat.ble (a+b) mx)=_;cases h:Nat.ble (a+b) mx with
   | false=>exact C4 _ _
   | true =>
    have:=hw (a+b) (Nat.le_of_ble_eq_true h);show fN (a+b) _=_;rw [Ce];show K ((a+b:Nat):Int)=K (k.wrap ((a:Int)+(b:Int)));rw [<-Int.natCast_add,this]
  | negSucc b =>
   show Bool.rec (motive:=λ_=>R) _ (Bool.rec (motive:=λ_=>R) _ _ (Nat.ble a mx)) (Nat.ble (b+1) a)=_;cases h:Nat.ble (b+1) a with
   | false=>exact C4 _ _
   | true =>
    cases h2:Nat.ble a mx with
    | false=>exact C4 _ _
    | true =>
     have h3:=Nat.le_of_ble_eq_true h;have:=hw (a - (b+1)) (by have:=Nat.le_of_ble_eq_true h2;omega);show fN (a - (b+1)) _=_;rw [Ce];have e:Int.ofNat a+Int.negSucc b=((a - (b+1):Nat):Int):=by
      simp only [Int.ofNat_eq_natCast,Int.negSucc_eq];omega
     rw [e,this];rfl
theorem LF {k:IntKind} {m:Nat} (h:m<=EM k):k.wrap (m:Int)=m:=by
 unfold IntKind.wrap;cases k<;>simp [EM,IntKind.bits,IntKind.signed] at h ⊢<;>omega
theorem M8 {mx:Nat} {k:IntKind} (hm:mx=EM k) (x y:Int) (K:Int->R):CQ mx k x y K=K (k.wrap (x - y)):=by
 unfold CQ wrI;cases x with
 | negSucc a=>exact C4 _ _
 | ofNat a =>
  cases y with
  | negSucc b=>exact C4 _ _
  | ofNat b =>
   show Bool.rec (motive:=λ_=>R) _ (Bool.rec (motive:=λ_=>R) _ _ (Nat.ble a mx)) (Nat.ble b a)=_;cases h:Nat.ble b a with
   | false=>exact C4 _ _
   | true =>
    cases h2:Nat.ble a mx with
    | false=>exact C4 _ _
    | true =>
     have h3:=Nat.le_of_ble_eq_true h;have h4:=Nat.le_of_ble_eq_true h2;show fN (a - b) _=_;rw [Ce];have e:Int.ofNat a - Int.ofNat b=((a - b:Nat):Int):=by
      simp only [Int.ofNat_eq_natCast];omega
     rw [e,LF (by subst hm;omega)];rfl
theorem UW {mx:Nat} {k:IntKind} (hm:mx=EM k) (x y:Int) (K:Int->R):Fx mx k x y K=K (k.wrap (x*y)):=by
 unfold Fx wrI;cases x with
 | negSucc a=>exact C4 _ _
 | ofNat a =>
  cases y with
  | negSucc b=>exact C4 _ _
  | ofNat b =>
   show Bool.rec (motive:=λ_=>R) _ _ (Nat.ble (a*b) mx)=_;cases h:Nat.ble (a*b) mx with
   | false=>exact C4 _ _
   | true =>
    have h4:=Nat.le_of_ble_eq_true h;show fN (a*b) _=_;rw [Ce];have e:Int.ofNat a*Int.ofNat b=((a*b:Nat):Int):=rfl;rw [e,LF (by rw [<-hm];exact h4)];rfl
theorem OX {mx:Nat} {k:IntKind} (hm:mx=EM k) (x:Int) (K:Int->R):cvI mx k x K=K (k.wrap x):=by
 unfold cvI wrI;cases x with
 | negSucc a=>exact C4 _ _
 | ofNat a =>
  show Bool.rec (motive:=λ_=>R) _ _ (Nat.ble a mx)=_;cases h:Nat.ble a mx with
  | false=>exact C4 _ _
  | true =>
   have h4:=Nat.le_of_ble_eq_true h;show fN a _=_;rw [Ce];show K ((a:Nat):Int)=K (k.wrap ((a:Nat):Int));rw [LF (by rw [<-hm];exact h4)]
theorem qK {mx:Nat} {k:IntKind} (hm:mx=EM k) {x y:Int} {K:Int->Option R} (h:CZ mx k x y K=some r):y≠0/\K (k.wrap (x.tdiv y))=some r:=by
 unfold CZ wrI at h;cases x with
 | negSucc a =>
  simp only [FK,C4] at h;split at h
  ·cases h
  ·rename_i hy;exact ⟨λe=>hy (by subst e;rfl),h⟩
 | ofNat a =>
  cases y with
  | negSucc b=>rw [C4] at h;exact ⟨by omega,h⟩
  | ofNat b =>
   cases b with
   | zero=>cases h
   | succ p =>
    refine ⟨(by intro e;cases e),?_⟩;change Bool.rec (motive:=λ_=>Option R) _ _ (Nat.ble a mx)=some r at h;cases hb:Nat.ble a mx with
    | false=>rw [hb,C4] at h;exact h
    | true =>
     rw [hb] at h;change fN (a / (p+1)) _=_ at h;rw [Ce] at h;have e:(Int.ofNat a).tdiv (Int.ofNat (p+1))=((a / (p+1):Nat):Int):=rfl;have:=Nat.le_of_ble_eq_true hb;have h2:a / (p+1)<=a:=Nat.div_le_self _ _;rw [e,LF (by subst hm;omega)];exact h
theorem qV {x y:Int} {K:Int->Option R} (h:De x y K=some r):y≠0/\K (x.tmod y)=some r:=by
 unfold De at h;cases x with
 | negSucc a =>
  simp only [FK,C4] at h;split at h
  ·cases h
  ·rename_i hy;exact ⟨λe=>hy (by subst e;rfl),h⟩
 | ofNat a =>
  cases y with
  | negSucc b=>rw [C4] at h;exact ⟨by omega,h⟩
  | ofNat b =>
   cases b with
   | zero=>cases h
   | succ p =>
    refine ⟨(by intro e;cases e),?_⟩;change fN (a % (p+1)) _=_ at h;rw [Ce] at h;exact h
theorem Kf (x y:Int):ltI x y=decide (x<y):=by
 cases x<;>cases y
 ·rename_i a b;show Nat.ble (a+1) b=_;simp only [Int.ofNat_eq_natCast];cases h:Nat.ble (a+1) b with
  | true=>have:=Nat.le_of_ble_eq_true h;symm;simp;omega
  | false=>have:¬(a+1<=b):=λh2=>by rw [Nat.ble_eq_true_of_le h2] at h;cases h
           symm;simp;omega
 ·rename_i a b;show false=_;symm;simp only [Int.ofNat_eq_natCast,Int.negSucc_eq];simp;omega
 ·rename_i a b;show true=_;symm;simp only [Int.ofNat_eq_natCast,Int.negSucc_eq];simp;omega
 ·rename_i a b;show Nat.ble (b+1) a=_;simp only [Int.negSucc_eq];cases h:Nat.ble (b+1) a with
  | true=>have:=Nat.le_of_ble_eq_true h;symm;simp;omega
  | false=>have:¬(b+1<=a):=λh2=>by rw [Nat.ble_eq_true_of_le h2] at h;cases h
           symm;simp;omega
theorem PZ (x y:Int):leI x y=decide (x<=y):=by
 cases x<;>cases y
 ·rename_i a b;show Nat.ble a b=_;simp only [Int.ofNat_eq_natCast];cases h:Nat.ble a b with
  | true=>have:=Nat.le_of_ble_eq_true h;symm;simp;omega
  | false=>have:¬(a<=b):=λh2=>by rw [Nat.ble_eq_true_of_le h2] at h;cases h
           symm;simp;omega
 ·rename_i a b;show false=_;symm;simp only [Int.ofNat_eq_natCast,Int.negSucc_eq];simp;omega
 ·rename_i a b;show true=_;symm;simp only [Int.ofNat_eq_natCast,Int.negSucc_eq];simp;omega
 ·rename_i a b;show Nat.ble b a=_;simp only [Int.negSucc_eq];cases h:Nat.ble b a with
  | true=>have:=Nat.le_of_ble_eq_true h;symm;simp;omega
  | false=>have:¬(b<=a):=λh2=>by rw [Nat.ble_eq_true_of_le h2] at h;cases h
           symm;simp;omega
theorem Sk (x y:Int):eqI x y=(x==y):=by
 cases x<;>cases y
 ·rename_i a b;show Nat.beq a b=_;cases h:Nat.beq a b with
  | true=>have:=Nat.eq_of_beq_eq_true h;subst this;simp
  | false=>have:a≠b:=Nat.ne_of_beq_eq_false h
           symm;simp only [Int.ofNat_eq_natCast,beq_eq_false_iff_ne];omega
 ·rename_i a b;show false=_;symm;simp only [Int.ofNat_eq_natCast,Int.negSucc_eq,beq_eq_false_iff_ne];omega
 ·rename_i a b;show false=_;symm;simp only [Int.ofNat_eq_natCast,Int.negSucc_eq,beq_eq_false_iff_ne];omega
 ·rename_i a b;show Nat.beq a b=_;cases h:Nat.beq a b with
  | true=>have:=Nat.eq_of_beq_eq_true h;subst this;simp
  | false=>have:a≠b:=Nat.ne_of_beq_eq_false h
           symm;simp only [Int.negSucc_eq,beq_eq_false_iff_ne];omega
theorem Iq (b:Bool):ntB b=!b:=by cases b<;>rfl
theorem Sg (a b:Bool):eqB a b=(a==b):=by cases a<;>cases b<;>rfl
theorem KQ (l m:List UInt8):eqS l m=ED l m:=by
 induction l generalizing m with
 | nil=>cases m<;>rfl
 | cons a l ih =>
  cases m with
  | nil=>rfl
  | cons b m =>
   show Bool.rec (motive:=λ_=>Bool) false (eqS l m) (Nat.beq a.toNat b.toNat)=_;rw [ih];show _=(Nat.beq a.toNat b.toNat&&ED l m);cases Nat.beq a.toNat b.toNat<;>simp
theorem Ye {op:BinOp} {k:IntKind} {x y:Int} {K:TV->Option R} (hop:op≠.shl) (hop2:op≠.shr) (h:Lb op k x y K=some r): ∃ tv,Fv op k x y=some tv.toV/\tv.ok/\K tv=some r:=by
 unfold Lb at h;split at h
 ·rw [Nr rfl] at h;exact ⟨.ii k _,rfl,trivial,h⟩
 ·rw [M8 rfl] at h;exact ⟨.ii k _,rfl,trivial,h⟩
 ·rw [UW rfl] at h;exact ⟨.ii k _,rfl,trivial,h⟩
 ·obtain ⟨h1,h2⟩:=qK rfl h;exact ⟨.ii k _,by simp [Fv,h1,TV.toV],trivial,h2⟩
 ·obtain ⟨h1,h2⟩:=qV h;exact ⟨.ii k _,by simp [Fv,h1,TV.toV],trivial,h2⟩
 ·exact ⟨.bb _,by rw [Sk];rfl,trivial,h⟩
 ·exact ⟨.bb _,by rw [Sk,Iq];rfl,trivial,h⟩
 ·exact ⟨.bb _,by rw [Kf];rfl,trivial,h⟩
 ·exact ⟨.bb _,by rw [PZ];rfl,trivial,h⟩
 ·exact ⟨.bb _,by rw [Kf];rfl,trivial,h⟩
 ·exact ⟨.bb _,by rw [PZ];rfl,trivial,h⟩
 ·obtain ⟨v,h1,h2⟩:=BR h;exact ⟨.vv v false,h1,(λh=>by cases h),h2⟩
theorem uR {op:BinOp} {x y:List UInt8} {K:TV->Option R} (h:QP op x y K=some r): ∃ tv,K6 op x y=some tv.toV/\tv.ok/\K tv=some r:=by
 unfold QP at h;split at h
 ·obtain ⟨h1,h2⟩:=CO h;have h1:Nat.ble (BN x+BN y) 9223372036854775807=true:=h1;rw [CB,CB] at h1;exact ⟨.ss _,by show (if _ then _ else _)=_;rw [if_pos h1,IM];rfl,trivial,h2⟩
 ·exact ⟨.bb _,by rw [KQ];rfl,trivial,h⟩
 ·exact ⟨.bb _,by rw [KQ,Iq];rfl,trivial,h⟩
 ·obtain ⟨v,h1,h2⟩:=BR h;exact ⟨.vv v false,h1,(λh=>by cases h),h2⟩
end
def adr:V->Nat->Option V
 | .ptr b v o,n=>some (.ptr b v (o+n))
 | .eptr xs i j,n=>some (.eptr xs i (j+n))
 | .gptr g o,n=>some (.gptr g (o+n))
 | _,_=>none
section
variable {R:Type} {fr:SF} {F:Fr} {r:R} {E:Env} {σ:St}
theorem IK {x p:V} (h:adr x 0=some p):p=x:=by
 cases x<;>cases h<;>rfl
theorem Iu {P:Program} {t:TypeId} {i:TypeInfo} {d:TypeDesc} (hi:P.info? t=some i) (hu:P.underlying t=some d) (hd:Be d=false) {cs:List V} {off:Nat} {v:V} (hv:cs[off]? = some v) (h1:v.one=true):part P t cs off=some v:=by
 unfold part;simp [hi,hu,hd,hv,h1]
theorem Ji {P:Program} {t:TypeId} {i:TypeInfo} {d:TypeDesc} (hi:P.info? t=some i) (hu:P.underlying t=some d) (hd:Be d=true) {cs:List V} {off:Nat} (hv:((cs.drop off).take i.size).length=i.size):part P t cs off=some (.agg ((cs.drop off).take i.size)):=by
 unfold part;simp only [hi,hu,hd];rw [if_pos trivial,if_pos (by rw [hv];exact Nat.beq_refl _)]
theorem RZ {b ver off:Nat} {K:V->Option R} (h:bk1 σ b ver off K=some r): ∃ cs ty fz v,σ.get b=some (.blk cs ty ver fz)/\cs[off]? = some v/\v.one=true/\K v=some r:=by
 obtain ⟨o,h1,h2⟩:=BR (show oK _ _=some r from h);rw [St.getF_eq] at h1;cases o with
 | map es clock=>cases h2
 | blk cs ty ver' fz =>
  obtain ⟨h3,h4⟩:=CO (show gd _ _=some r from h2);obtain ⟨v,h5,h6⟩:=BR h4;obtain ⟨h7,h8⟩:=CO h6;have:=Nat.eq_of_beq_eq_true h3;subst this;rw [Dp] at h5;rw [V.zAh] at h7;exact ⟨cs,ty,fz,v,h1,h5,h7,h8⟩
theorem Ra {n b ver off:Nat} {K:V->Option R} (h:bkN σ n b ver off K=some r): ∃ cs ty fz,σ.get b=some (.blk cs ty ver fz)/\((cs.drop off).take n).length=n/\K (.agg ((cs.drop off).take n))=some r:=by
 obtain ⟨o,h1,h2⟩:=BR (show oK _ _=some r from h);rw [St.getF_eq] at h1;cases o with
 | map es clock=>cases h2
 | blk cs ty ver' fz =>
  obtain ⟨h3,h4⟩:=CO (show gd _ _=some r from h2);have h5:=CO h4;simp only [Et,FL,CB] at h5;have:=Nat.eq_of_beq_eq_true h3;subst this;exact ⟨cs,ty,fz,h1,Nat.eq_of_beq_eq_true h5.1,h5.2⟩
theorem Sb {x:V} {off:Nat} {K:V->Option R} (h:el1 x off K=some r): ∃ v,x.cells[off]? = some v/\v.one=true/\K v=some r:=by
 obtain ⟨v,h5,h6⟩:=BR (show oK _ _=some r from h);obtain ⟨h7,h8⟩:=CO h6;rw [Dp,V.zAb] at h5;rw [V.zAh] at h7;exact ⟨v,h5,h7,h8⟩
theorem Sc {x:V} {n off:Nat} {K:V->Option R} (h:elN x n off K=some r):((x.cells.drop off).take n).length=n/\K (.agg ((x.cells.drop off).take n))=some r:=by
 have h5:=CO (show gd _ _=some r from h);simp only [Et,FL,CB,V.zAb] at h5;exact ⟨Nat.eq_of_beq_eq_true h5.1,h5.2⟩
theorem V.zAR {x:V} {b ver o:Nat} (h:x.asP=.ptr b ver o):x=.ptr b ver o:=by
 cases x<;>cases h
 rfl
theorem V.zAP {x:V} {xs:List V} {i j:Nat} (h:x.asP=.eptr xs i j):x=.eptr xs i j:=by
 cases x<;>cases h
 rfl
theorem V.zAQ {x:V} {g o:Nat} (h:x.asP=.gptr g o):x=.gptr g o:=by
 cases x<;>cases h
 rfl
theorem V.zAT {x:V} {xs:List V} (h:x.asSl=.lst xs): ∃ full,x=.lst xs full:=by
 cases x<;>cases h
 exact ⟨_,rfl⟩
theorem V.zAU {x:V} {b ver o len:Nat} (h:x.asSl=.ref b ver o len): ∃ cap,x=.ref b ver o len cap:=by
 cases x<;>cases h
 exact ⟨_,rfl⟩
theorem PX {t:TypeId} {i:TypeInfo} {d:TypeDesc} (hi:E.P.info? t=some i) (hu:E.P.underlying t=some d) (hd:Be d=false) {x:V} {off:Nat} {K:V->Option R} (h:ld1 E x off σ K=some r) :
 ∃ p v,adr x off=some p/\loadAt E t p σ=some v/\v.one=true/\K v=some r:=by
 unfold ld1 at h;cases hx:x.asP with
 | no=>rw [hx] at h;cases h
 | ptr b ver o =>
  rw [hx] at h;have:=V.zAR hx;subst this;obtain ⟨cs,ty,fz,v,h1,h2,h3,h4⟩:=RZ (show bk1 σ b ver (o+off) K=some r from h);refine ⟨_,v,rfl,?_,h3,h4⟩;unfold loadAt;simp only [h1,Nat.beq_refl,if_true];exact Iu hi hu hd h2 h3
 | eptr xs k j =>
  rw [hx] at h;have:=V.zAP hx;subst this;obtain ⟨e,h1,h2⟩:=BR (show oK _ _=some r from h);obtain ⟨v,h3,h4,h5⟩:=Sb h2;rw [Dp] at h1;refine ⟨_,v,rfl,?_,h4,h5⟩;unfold loadAt;simp only [h1];exact Iu hi hu hd h3 h4
 | gptr g o =>
  rw [hx] at h;have:=V.zAQ hx;subst this;obtain ⟨cs,h1,h2⟩:=BR (show oK _ _=some r from h);obtain ⟨v,h3,h4⟩:=BR h2;obtain ⟨h5,h6⟩:=CO h4;rw [Dp] at h3;rw [V.zAh] at h5;refine ⟨_,v,rfl,?_,h5,h6⟩;unfold loadAt;simp only [h1];exact Iu hi hu hd h3 h5
theorem PY {t:TypeId} {i:TypeInfo} {d:TypeDesc} (hi:E.P.info? t=some i) (hu:E.P.underlying t=some d) (hd:Be d=true) {x:V} {off:Nat} {K:V->Option R} (h:ldN E i.size x off σ K=some r) :
 ∃ p v,adr x off=some p/\loadAt E t p σ=some v/\K v=some r:=by
 unfold ldN at h;cases hx:x.asP with
 | no=>rw [hx] at h;cases h
 | ptr b ver o =>
  rw [hx] at h;have:=V.zAR hx;subst this;obtain ⟨cs,ty,fz,h1,h2,h4⟩:=Ra (show bkN σ i.size b ver (o+off) K=some r from h);refine ⟨_,_,rfl,?_,h4⟩;unfold loadAt;simp only [h1,Nat.beq_refl,if_true];exact Ji hi hu hd h2
 | eptr xs k j =>
  rw [hx] at h;have:=V.zAP hx;subst this;obtain ⟨e,h1,h2⟩:=BR (show oK _ _=some r from h);obtain ⟨h4,h5⟩:=Sc h2;rw [Dp] at h1;refine ⟨_,_,rfl,?_,h5⟩;unfold loadAt;simp only [h1];exact Ji hi hu hd h4
 | gptr g o =>
  rw [hx] at h;have:=V.zAQ hx;subst this;obtain ⟨cs,h1,h2⟩:=BR (show oK _ _=some r from h);have h5:=CO (show gd _ _=some r from h2);simp only [Et,FL,CB] at h5;refine ⟨_,_,rfl,?_,h5.2⟩;unfold loadAt;simp only [h1];exact Ji hi hu hd (Nat.eq_of_beq_eq_true h5.1)
theorem Ip {i:Int} {K:Nat->Option R} (h:Bo i K=some r): ∃ n:Nat,i=.ofNat n/\K n=some r:=by
 cases i with
 | ofNat n=>exact ⟨n,rfl,h⟩
 | negSucc n=>cases h
theorem Tk {t elem:TypeId} {inf:TypeInfo} (ht:E.P.underlying t=some (.slice elem)) (hi:E.P.info? elem=some inf) {xs:List V} {full:Bool} {n:Nat} {e:V} {k:IntKind} (h1:xs[n]? = some e) (h2:e.cells.length=inf.size) :
 indexAt E t (.lst xs full) (.int k (.ofNat n))=some (.eptr xs n 0):=by
 unfold indexAt;simp only [ht,hi];have hlt:n<xs.length:=(List.getElem?_eq_some_iff.1 h1).1;simp only [Fu,(Nat.blt_eq).mpr hlt,if_true,h1,h2,Nat.beq_refl]
theorem PI {t elem:TypeId} {inf:TypeInfo} (ht:E.P.underlying t=some (.slice elem)) (hi:E.P.info? elem=some inf) {b ver o len:Nat} {cap:Option Nat} {n:Nat} {k:IntKind} (h1:n<len) :
 indexAt E t (.ref b ver o len cap) (.int k (.ofNat n))=some (.ptr b ver (o+n*inf.size)):=by
 unfold indexAt;simp only [ht,hi,Fu,(Nat.blt_eq).mpr h1,if_true]
theorem l7 {t elem u:TypeId} {inf i:TypeInfo} {d:TypeDesc} (ht:E.P.underlying t=some (.slice elem)) (hinf:E.P.info? elem=some inf) (hi:E.P.info? u=some i) (hu:E.P.underlying u=some d) (hd:Be d=false)
 {x:V} {k:IntKind} {n:Int} {off:Nat} {K:V->Option R} (h:AZ inf.size x n off σ K=some r) :
 ∃ q p v,indexAt E t x (.int k n)=some q/\adr q off=some p/\loadAt E u p σ=some v/\v.one=true/\K v=some r:=by
 obtain ⟨n,rfl,hh⟩:=Ip (show Bo _ _=some r from h);clear h;have h:=hh;clear hh;cases hx:x.asSl with
 | no=>rw [hx] at h;cases h
 | lst xs =>
  rw [hx] at h;obtain ⟨full,rfl⟩:=V.zAT hx;obtain ⟨e,h1,h2⟩:=BR (show oK _ _=some r from h);obtain ⟨h3,h4⟩:=CO h2;obtain ⟨v,h5,h6,h7⟩:=Sb h4;rw [Dp] at h1;rw [CB,V.zAb] at h3;refine ⟨_,_,v,Tk ht hinf h1 (Nat.eq_of_beq_eq_true h3),rfl,?_,h6,h7⟩;unfold loadAt;simp only [h1,Nat.zero_add];exact Iu hi hu hd h5 h6
 | ref b ver o len =>
  rw [hx] at h;obtain ⟨cap,rfl⟩:=V.zAU hx;obtain ⟨h3,h4⟩:=CO (show gd _ _=some r from h);obtain ⟨cs,ty,fz,v,h5,h6,h7,h8⟩:=RZ (show bk1 σ b ver (o+(n*inf.size+off)) K=some r from h4);refine ⟨_,_,v,PI ht hinf (Nat.le_of_ble_eq_true h3),rfl,?_,h7,h8⟩;unfold loadAt;simp only [h5,Nat.beq_refl,if_true];exact Iu hi hu hd (by rw [<-h6,Nat.add_assoc]) h7
theorem l8 {t elem u:TypeId} {inf i:TypeInfo} {d:TypeDesc} (ht:E.P.underlying t=some (.slice elem)) (hinf:E.P.info? elem=some inf) (hi:E.P.info? u=some i) (hu:E.P.underlying u=some d) (hd:Be d=true)
 {x:V} {k:IntKind} {n:Int} {off:Nat} {K:V->Option R} (h:Bw inf.size i.size x n off σ K=some r) :
 ∃ q p v,indexAt E t x (.int k n)=some q/\adr q off=some p/\loadAt E u p σ=some v/\K v=some r:=by
 obtain ⟨n,rfl,hh⟩:=Ip (show Bo _ _=some r from h);clear h;have h:=hh;clear hh;cases hx:x.asSl with
 | no=>rw [hx] at h;cases h
 | lst xs =>
  rw [hx] at h;obtain ⟨full,rfl⟩:=V.zAT hx;obtain ⟨e,h1,h2⟩:=BR (show oK _ _=some r from h);obtain ⟨h3,h4⟩:=CO h2;obtain ⟨h6,h7⟩:=Sc h4;rw [Dp] at h1;rw [CB,V.zAb] at h3;refine ⟨_,_,_,Tk ht hinf h1 (Nat.eq_of_beq_eq_true h3),rfl,?_,h7⟩;unfold loadAt;simp only [h1,Nat.zero_add];exact Ji hi hu hd h6
 | ref b ver o len =>
  rw [hx] at h;obtain ⟨cap,rfl⟩:=V.zAU hx;obtain ⟨h3,h4⟩:=CO (show gd _ _=some r from h);obtain ⟨cs,ty,fz,h5,h6,h8⟩:=Ra (show bkN σ i.size b ver (o+(n*inf.size+off)) K=some r from h4);refine ⟨_,_,_,PI ht hinf (Nat.le_of_ble_eq_true h3),rfl,?_,h8⟩;unfold loadAt;simp only [h5,Nat.beq_refl,if_true];rw [Nat.add_assoc];exact Ji hi hu hd h6
theorem QD {cs:List V} {off:Nat} {v:V} (h:off<cs.length) (h1:v.one=true):Ca cs off [v]=some (cs.set off v):=by
 unfold Ca;rw [if_pos (by rw [(Nat.blt_eq).mpr h,h1];rfl)];unfold Ca;rw [if_pos (Nat.ble_eq.mpr (by rw [List.length_set];omega))]
theorem KK {v:V} (h:v.one=true):v.cells=[v]:=by cases v<;>first | rfl | (cases h;done)
theorem Rc {t:TypeId} {i:TypeInfo} (hi:E.P.info? t=some i) (hs:i.size=1) {b ver off:Nat} {v:V} (hv:v.one=true) {K:St->Option R} (h:bs1 σ b ver off v K=some r): ∃ σ',storeAt E t (.ptr b ver off) v σ=some σ'/\K σ'=some r:=by
 obtain ⟨o,h1,h2⟩:=BR (show oK _ _=some r from h);rw [St.getF_eq] at h1;cases o with
 | map es clock=>cases h2
 | blk cs ty ver' fz =>
  cases fz with
  | true=>cases h2
  | false =>
   obtain ⟨h3,h4⟩:=CO (show gd _ _=some r from h2);obtain ⟨h5,h6⟩:=CO h4;rw [St.zAq,QC] at h6;rw [CB] at h5;have:=Nat.eq_of_beq_eq_true h3;subst this;refine ⟨_,?_,h6⟩;unfold storeAt;simp only [hi,h1,hs,Nat.beq_refl,KK hv,List.length_singleton,Bool.and_self,if_true,QD (Nat.le_of_ble_eq_true h5) hv]
theorem Vn {t:TypeId} {i:TypeInfo} (hi:E.P.info? t=some i) (hs:i.size=1) {x:V} {off:Nat} {v:V} (hv:v.one=true) {K:St->Option R} (h:st1 x off v σ K=some r): ∃ p σ',adr x off=some p/\storeAt E t p v σ=some σ'/\K σ'=some r:=by
 unfold st1 at h;cases hx:x.asP with
 | no=>rw [hx] at h;cases h
 | ptr b ver o =>
  rw [hx] at h;have:=V.zAR hx;subst this;obtain ⟨σ',h1,h2⟩:=Rc hi hs hv (show bs1 σ b ver (o+off) v K=some r from h);exact ⟨_,σ',rfl,h1,h2⟩
 | eptr xs k j=>rw [hx] at h;cases h
 | gptr g o=>rw [hx] at h;cases h
theorem uA {t elem u:TypeId} {inf i:TypeInfo} (ht:E.P.underlying t=some (.slice elem)) (hinf:E.P.info? elem=some inf) (hi:E.P.info? u=some i) (hs:i.size=1) {x:V} {k:IntKind} {n:Int} {off:Nat} {v:V} (hv:v.one=true) {K:St->Option R} (h:K5 inf.size x n off v σ K=some r) :
 ∃ q p σ',indexAt E t x (.int k n)=some q/\adr q off=some p/\storeAt E u p v σ=some σ'/\K σ'=some r:=by
 obtain ⟨n,rfl,hh⟩:=Ip (show Bo _ _=some r from h);clear h;have h:=hh;clear hh;cases hx:x.asSl with
 | no=>rw [hx] at h;cases h
 | lst xs=>rw [hx] at h;cases h
 | ref b ver o len =>
  rw [hx] at h;obtain ⟨cap,rfl⟩:=V.zAU hx;obtain ⟨h3,h4⟩:=CO (show gd _ _=some r from h);obtain ⟨σ',h5,h6⟩:=Rc hi hs hv (show bs1 σ b ver (o+(n*inf.size+off)) v K=some r from h4);exact ⟨_,_,σ',PI ht hinf (Nat.le_of_ble_eq_true h3),rfl,by rw [Nat.add_assoc];exact h5,h6⟩
end
section
variable {R:Type} {fr:SF} {F:Fr} {r:R} {E:Env} {σ:St}
def Dx (_:Env) (F:Fr) (a:Option (V×St)) (K:Kt R) (r:R):Prop:=∃ fr' tv σ',a=some (tv.toV,σ')/\tv.ok/\Av fr' F/\K fr' tv σ'=some r
theorem DA {v:V}: (TV.vv v false).ok:=λh=>by cases h
theorem O9 {op:BinOp} {t:TypeId} {x y:Operand} {K:Kt R} (h:KU E op t fr x y σ K=some r) (hf:Av fr F): ∃ a b,F.ev x=some a/\F.ev y=some b/\Dx E F (keep σ (CW E op t x y a b σ)) K r:=by
 unfold KU at h;obtain ⟨a,h1,h2⟩:=Bq h hf;obtain ⟨b,h3,h4⟩:=Bq h2 hf;obtain ⟨v,h5,h6⟩:=BR h4;exact ⟨a,b,h1,h3,fr,.vv v false,σ,by rw [h5];rfl,DA,hf,h6⟩
theorem Tt {v:V} {b:Bool} (h:v.isNilP=some b):(v=.ptr0/\b=true)\/(b=false/\((∃ x y z,v=.ptr x y z)\/(∃ x y z,v=.eptr x y z)\/∃ x y,v=.gptr x y)):=by
 cases v<;>cases h
 ·exact .inl ⟨rfl,rfl⟩
 ·exact .inr ⟨rfl,.inl ⟨_,_,_,rfl⟩⟩
 ·exact .inr ⟨rfl,.inr (.inl ⟨_,_,_,rfl⟩)⟩
 ·exact .inr ⟨rfl,.inr (.inr ⟨_,_,rfl⟩)⟩
theorem Y0 {op:BinOp} {t yt:TypeId} {x y:Operand} {K:Kt R} (h:N8 E op t fr x y yt σ K=some r) (hf:Av fr F): ∃ a b,F.ev x=some a/\F.ev y=some b/\Dx E F (keep σ (CW E op t x y a b σ)) K r:=by
 unfold N8 at h;split at h
 ·rename_i k hk;have other: ∀ (op:BinOp),op≠.shl->op≠.shr->(Di k fr x λfr a=>Di k fr y λfr b=>Lb op k a b λv=>K fr v σ)=some r->∃ a b,F.ev x=some a/\F.ev y=some b/\Dx E F (keep σ (CW E op t x y a b σ)) K r:=by
   intro op ho1 ho2 h;obtain ⟨fr1,a,h1,h2,h3⟩:=Ev h hf;obtain ⟨fr2,b,h4,h5,h6⟩:=Ev h3 h2;obtain ⟨tv,h7,h8,h9⟩:=Ye ho1 ho2 h6;refine ⟨_,_,h1,h4,fr2,tv,σ,?_,h8,h5,h9⟩;have:CW E op t x y (.int k a) (.int k b) σ=Fv op k a b:=by
    show ET E op t (.int k a) (.int k b) σ=_;unfold ET;cases op<;>first | (exact absurd rfl ho1) | (exact absurd rfl ho2) | (simp only;rw [if_pos (by cases k<;>rfl)])
   rw [this,h7];rfl
  have shift: ∀ (op:BinOp),(op=.shl\/op=.shr)->(match E.P.underlying yt with
   | some (.int k')=>Di k fr x λfr a=>Di k' fr y λfr b=>shK op k a b λv=>K fr (.vv v false) σ
   | _=>none)=some r->∃ a b,F.ev x=some a/\F.ev y=some b/\Dx E F (keep σ (CW E op t x y a b σ)) K r:=by
   intro op ho h;split at h
   ·obtain ⟨fr1,a,h1,h2,h3⟩:=Ev h hf;obtain ⟨fr2,b,h4,h5,h6⟩:=Ev h3 h2;obtain ⟨v,h7,h8⟩:=BR h6;refine ⟨_,_,h1,h4,fr2,.vv v false,σ,?_,DA,h5,h8⟩;unfold CW;simp only;unfold ET;rcases ho with rfl | rfl<;>(simp only;rw [h7];rfl)
   ·cases h
  split at h
  ·exact shift _ (.inl rfl) h
  ·exact shift _ (.inr rfl) h
  ·rename_i n1 n2;exact other _ (λe=>n1 e) (λe=>n2 e) h
 ·obtain ⟨fr1,a,h1,h2,h3⟩:=H5 h hf;obtain ⟨fr2,b,h4,h5,h6⟩:=H5 h3 h2;obtain ⟨tv,h7,h8,h9⟩:=uR h6;exact ⟨_,_,h1,h4,fr2,tv,σ,by show keep σ (ET E op t (.str a) (.str b) σ)=_;unfold ET;simp only;rw [h7];rfl,h8,h5,h9⟩
 ·rename_i ht;split at h
  ·obtain ⟨fr1,a,h1,h2,h3⟩:=FZ h hf;obtain ⟨fr2,b,h4,h5,h6⟩:=FZ h3 h2;exact ⟨_,_,h1,h4,fr2,.bb _,σ,by show keep σ (ET E _ t (.bool a) (.bool b) σ)=_;unfold ET eqV;simp only [ht];rw [Sg];rfl,trivial,h5,h6⟩
  ·obtain ⟨fr1,a,h1,h2,h3⟩:=FZ h hf;obtain ⟨fr2,b,h4,h5,h6⟩:=FZ h3 h2;exact ⟨_,_,h1,h4,fr2,.bb _,σ,by show keep σ (ET E _ t (.bool a) (.bool b) σ)=_;unfold ET eqV;simp only [ht];rw [Sg,Iq];rfl,trivial,h5,h6⟩
  ·cases h
 ·rename_i e ht;cases hn:PR y with
  | false=>rw [hn] at h;exact O9 h hf
  | true =>
   rw [hn] at h;simp only [bC] at h;have hy:F.ev y=some .ptr0:=by
    unfold PR at hn;split at hn
    ·rfl
    ·cases hn
   have key: ∀ (v:V) (b:Bool),v.isNilP=some b->eqV E t v .ptr0 σ=some b:=by
    intro v b hb;rcases Tt hb with ⟨rfl,rfl⟩ | ⟨rfl,⟨_,_,_,rfl⟩ | ⟨_,_,_,rfl⟩ | ⟨_,_,rfl⟩⟩<;>(unfold eqV;simp only [ht])
   have kb: ∀ (op:BinOp) (v:V) (b:Bool),v.isNilP=some b->CW E op t x y v .ptr0 σ=(match op,eqV E t v .ptr0 σ with
    | .eql,some r=>some (.bool r)
    | .neq,some r=>some (.bool (!r))
    | _,_=>none):=by
    intro op v b hb;rcases Tt hb with ⟨rfl,rfl⟩ | ⟨rfl,⟨_,_,_,rfl⟩ | ⟨_,_,_,rfl⟩ | ⟨_,_,rfl⟩⟩<;>rfl
   split at h
   ·obtain ⟨v,h1,h2⟩:=Bq h hf;obtain ⟨b,h3,h4⟩:=BR h2;exact ⟨_,_,h1,hy,fr,.bb b,σ,by rw [kb _ v b h3,key v b h3];rfl,trivial,hf,h4⟩
   ·obtain ⟨v,h1,h2⟩:=Bq h hf;obtain ⟨b,h3,h4⟩:=BR h2;exact ⟨_,_,h1,hy,fr,.bb (ntB b),σ,by rw [kb _ v b h3,key v b h3,Iq];rfl,trivial,hf,h4⟩
   ·cases h
 ·rename_i ms ht;cases hn:isNilI y with
  | false=>rw [hn] at h;exact O9 h hf
  | true =>
   rw [hn] at h;simp only [bC] at h;have hyc:y=.const .nilIface:=by
    unfold isNilI at hn;split at hn
    ·rfl
    ·cases hn
   subst hyc;have hy:F.ev (.const .nilIface)=some .if0:=rfl;have kb: ∀ (v:V) (b:Bool),v.isNilI=some b->CW E .eql t x (.const .nilIface) v .if0 σ=some (.bool b)/\CW E .neq t x (.const .nilIface) v .if0 σ=some (.bool (!b)):=by
    intro v b hb;cases v<;>cases hb
    ·constructor<;>(unfold CW;simp [MG,ht])
    ·constructor<;>(unfold CW;simp only;unfold ET eqV;simp only [ht])
   split at h
   ·obtain ⟨v,h1,h2⟩:=Bq h hf;obtain ⟨b,h3,h4⟩:=BR h2;exact ⟨_,_,h1,hy,fr,.bb b,σ,by rw [(kb v b h3).1];rfl,trivial,hf,h4⟩
   ·obtain ⟨v,h1,h2⟩:=Bq h hf;obtain ⟨b,h3,h4⟩:=BR h2;exact ⟨_,_,h1,hy,fr,.bb (ntB b),σ,by rw [(kb v b h3).2,Iq];rfl,trivial,hf,h4⟩
   ·cases h
 ·exact O9 h hf
theorem TA {place:Nat->Option (Nat×Nat)} {pl:Nat->Nat} {n:Nat}: ∀ (l:List (Nat×TV)) (cs:List V),cs.length=n->(∀ p∈l,p.2.toV.one=true)->(∀ p∈l,place p.1=some (pl p.1,1)/\pl p.1<n) ->
 El place cs (l.map λp=>(p.1,p.2.toV))=some (Ms pl l cs)
 | [],cs,_,_,_=>rfl
 | (i,v) :: r,cs,hn,h1,h2=>by
  have hv:=h1 _ (List.mem_cons_self ..);obtain ⟨hp,hlt⟩:=h2 _ (List.mem_cons_self ..);simp only [List.map_cons,El,hp,KK hv,List.length_singleton,Nat.beq_refl,if_true,QD (hn▸hlt) hv];exact TA r _ (by simp [hn]) (λp hp=>h1 p (List.mem_cons_of_mem _ hp)) (λp hp=>h2 p (List.mem_cons_of_mem _ hp))
theorem Vd {P:Program}: ∀ {fs:List Field} {l:List (Nat×Nat)},Ht P fs=some l->∀ {i:Nat} {f:Field} {inf:TypeInfo},fs[i]? = some f->P.info? f.type=some inf->l[i]? = some (f.offset,inf.size)
 | [],l,h,i,f,inf,hf,_=>by simp at hf
 | g :: fs,l,h,i,f,inf,hf,hi=>by
  unfold Ht at h;split at h
  ·rename_i j l' h1 h2;cases h;cases i with
   | zero=>simp at hf;subst hf;rw [hi] at h1;cases h1;rfl
   | succ i=>simp at hf ⊢;exact Vd h2 hf hi
  ·cases h
theorem RB {v:V} (hv:v.one=true): ∀ (cs:List V) (i:Nat),BO cs=true->BO (cs.set i v)=true
 | [],i,h=>by simpa using h
 | c :: cs,0,h=>by simp only [BO,Bool.and_eq_true] at h;simp only [List.set_cons_zero,BO,Bool.and_eq_true];exact ⟨hv,h.2⟩
 | c :: cs,i+1,h=>by simp only [BO,Bool.and_eq_true] at h;simp only [List.set_cons_succ,BO,Bool.and_eq_true];exact ⟨h.1,RB hv cs i h.2⟩
theorem VS (place:Nat->Nat): ∀ (l:List (Nat×TV)) (cs:List V),(∀ p∈l,p.2.toV.one=true)->BO cs=true->BO (Ms place l cs)=true
 | [],_,_,h=>h
 | (_,_) :: r,cs,h1,h=>VS place r _ (λp hp=>h1 p (List.mem_cons_of_mem _ hp)) (RB (h1 _ (List.mem_cons_self ..)) cs _ h)
theorem Y8 {t:TypeId} {ps:List (Nat×Operand)} {K:Kt R} (h:OB E t ps fr σ K=some r) (hf:Av fr F): ∃ l,D5 F.ev ps=some l/\Dx E F (keep σ (CD E t l)) K r:=by
 have gen:(Jj fr ps λl=>oK (CD E t l) λv=>K fr (.vv v false) σ)=some r->∃ l,D5 F.ev ps=some l/\Dx E F (keep σ (CD E t l)) K r:=by
  intro h;obtain ⟨l,h1,h2⟩:=Px h hf;obtain ⟨v,h3,h4⟩:=BR h2;exact ⟨l,h1,fr,.vv v false,σ,by rw [h3];rfl,DA,hf,h4⟩
 unfold OB at h;split at h
 ·rename_i z fs hz hu;cases hc:(Us E.P fs z.length ps&&(Ht E.P fs.toList).isSome&&BO z) with
  | false=>rw [hc] at h;exact gen h
  | true =>
   rw [hc] at h;simp only [Bool.and_eq_true] at hc;obtain ⟨⟨hp,hs⟩,ho⟩:=hc;obtain ⟨places,hs⟩:=Option.isSome_iff_exists.1 hs;obtain ⟨fr',l,h1,h2,h3,h4,h5⟩:=Pw (show Kr fr ps _=some r from h) hf;refine ⟨_,h1,fr',.aa _,σ,?_,VS _ _ _ h2 ho,h4,h5⟩;unfold CD;simp only [hz,hu,hs];have hfill:=TA (place:=λi=>places[i]?) (pl:=MZ fs) (n:=z.length) l z rfl h2 ?_
   ·show keep σ (match El (λi=>places[i]?) z (l.map λp=>(p.1,p.2.toV)) with | some cs=>some (V.agg cs) | none=>none)=_;rw [hfill];rfl
   ·intro p hpm;have hm:p.1∈ps.map (·.1):=by rw [<-h3];exact List.mem_map_of_mem hpm
    obtain ⟨q,hq,hqe⟩:=List.mem_map.1 hm;have:=List.all_eq_true.1 hp q hq;rw [hqe] at this;split at this
    ·rename_i f hfs;simp only [Bool.and_eq_true] at this;obtain ⟨h6,h7⟩:=this;split at h6
     ·rename_i inf hinf;have h8:fs.toList[p.1]? = some f:=by simpa using hfs
      have:=Vd hs h8 hinf;refine ⟨?_,?_⟩
      ·rw [this,Nat.eq_of_beq_eq_true h6];unfold MZ;rw [hfs]
      ·unfold MZ;rw [hfs];exact Nat.blt_eq.mp h7
     ·cases h6
    ·cases this
 ·exact gen h
theorem mM {t:TypeId} {a:Operand} {K:Kt R} (h:Pe E t fr a σ K=some r) (hf:Av fr F): ∃ p,F.ev a=some p/\Dx E F (keep σ (loadAt E t p σ)) K r:=by
 unfold Pe at h;split at h
 ·rename_i i d hi hd;obtain ⟨p,h1,h2⟩:=Bq h hf;cases hg:Be d with
  | true =>
   rw [hg] at h2;obtain ⟨q,v,h3,h4,h5⟩:=PY hi hd hg (show ldN E i.size p 0 σ _=some r from h2);rw [IK h3] at h4;exact ⟨p,h1,fr,.vv v false,σ,by rw [h4];rfl,DA,hf,h5⟩
  | false =>
   rw [hg] at h2;obtain ⟨q,v,h3,h4,h6,h5⟩:=PX hi hd hg (show ld1 E p 0 σ _=some r from h2);rw [IK h3] at h4;exact ⟨p,h1,fr,.vv v true,σ,by rw [h4];rfl,λ_=>h6,hf,h5⟩
 ·cases h
theorem uP {t:TypeId} {a x:Operand} {K:Kt R} (h:QN E t fr a x σ K=some r) (hf:Av fr F): ∃ p v,F.ev a=some p/\F.ev x=some v/\Dx E F (unit (storeAt E t p v σ)) K r:=by
 unfold QN at h;split at h
 ·rename_i i d hi hd;obtain ⟨p,h1,h2⟩:=Bq h hf;cases hg:(Be d||!Nat.beq i.size 1) with
  | true =>
   rw [hg] at h2;simp only [bC] at h2;obtain ⟨v,h3,h4⟩:=Bq h2 hf;obtain ⟨σ',h5,h6⟩:=BR h4;exact ⟨p,v,h1,h3,fr,Dh,σ',by rw [h5];rfl,DA,hf,h6⟩
  | false =>
   rw [hg] at h2;simp only [Bool.or_eq_false_iff,Bool.not_eq_false'] at hg;simp only [bC] at h2;obtain ⟨fr1,tv,h3,h4,h5,h6⟩:=Qi h2 hf;obtain ⟨q,σ',h7,h8,h9⟩:=Vn (t:=t) hi (Nat.eq_of_beq_eq_true hg.2) h4 h6;rw [IK h7] at h8;exact ⟨p,_,h1,h3,fr1,Dh,σ',by rw [h8];rfl,DA,h5,h9⟩
 ·cases h
theorem aX {s:TypeId} {x:Operand} {f:Nat} {K:Kt R} (h:Ow E s fr x f σ K=some r) (hf:Av fr F): ∃ v,F.ev x=some v/\Dx E F (keep σ (E4 E s v f)) K r:=by
 unfold Ow at h;split at h
 ·rename_i fs hs;split at h
  ·rename_i fd hfd;split at h
   ·rename_i i d hi hd;split at h
    ·rename_i cs hx;obtain ⟨h1,h2⟩:=CP hf hx;refine ⟨_,h1,?_⟩;cases hg:Be d with
     | true =>
      rw [hg] at h;simp only [bC] at h;split at h
      ·rename_i v hv;exact ⟨fr,.vv v false,σ,by show keep σ (E4 E s (.agg cs) f)=_;rw [hv];rfl,DA,hf,h⟩
      ·cases h
     | false =>
      rw [hg] at h;simp only [bC] at h;split at h
      ·rename_i v hv;have hone:v.one=true:=by
        have:BO cs=true:=h2;clear h1 hx h
        revert hv
        generalize fd.offset=n;intro hv
        induction cs generalizing n with
        | nil=>simp at hv
        | cons c cs ih =>
         simp only [BO,Bool.and_eq_true] at this;cases n with
         | zero=>simp at hv;rw [<-hv];exact this.1
         | succ n=>simp at hv;exact ih this.2 this.2 n hv
       exact ⟨fr,.of1 v,σ,by show keep σ (E4 E s (.agg cs) f)=_;unfold E4;simp only [hs,hfd,Iu hi hd hg hv hone,TV.zAk];rfl,TV.of1_ok hone,hf,h⟩
      ·cases h
    ·rename_i v o hx;obtain ⟨h1,h2⟩:=CP hf hx;refine ⟨_,h1,?_⟩;cases hg:Be d with
     | true =>
      rw [hg] at h;obtain ⟨cs,h3,h4⟩:=BR (show oK v.asA _=some r from h);have:=V.zAL h3;subst this;have h5:=CO (show gd _ _=some r from h4);simp only [Et,FL,CB] at h5;refine ⟨fr,.vv _ false,σ,?_,DA,hf,h5.2⟩;show keep σ (E4 E s (.agg cs) f)=_;unfold E4;simp only [hs,hfd,Ji hi hd hg (Nat.eq_of_beq_eq_true h5.1)];rfl
     | false =>
      rw [hg] at h;obtain ⟨cs,h3,h4⟩:=BR (show oK v.asA _=some r from h);have:=V.zAL h3;subst this;obtain ⟨w,h5,h6⟩:=BR h4;obtain ⟨h7,h8⟩:=CO h6;rw [Dp] at h5;rw [V.zAh] at h7;refine ⟨fr,.vv _ true,σ,?_,λ_=>h7,hf,h8⟩;show keep σ (E4 E s (.agg cs) f)=_;unfold E4;simp only [hs,hfd,Iu hi hd hg h5 h7];rfl
    ·cases h
   ·cases h
  ·cases h
 ·cases h
theorem dX {l:List UInt8} {n:Int} {K:Int->Option R} (h:Cr l n K=some r): ∃ (m:Nat) (b:UInt8),n=.ofNat m/\l[m]? = some b/\K (b.toNat)=some r:=by
 cases n with
 | negSucc n=>cases h
 | ofNat m =>
  obtain ⟨b,h1,h2⟩:=BR (show oK _ _=some r from h);rw [Ce] at h2;rw [Dp] at h1;exact ⟨m,b,rfl,h1,h2⟩
theorem eB {t:TypeId} {x i:Operand} {K:Kt R} (h:PJ E t fr x i σ K=some r) (hf:Av fr F): ∃ v n,F.ev x=some v/\F.ev i=some n/\Dx E F (keep σ (Cn E t v n)) K r:=by
 unfold PJ at h;split at h
 ·rename_i ht;obtain ⟨fr1,l,h1,h2,h3⟩:=H5 h hf;obtain ⟨k,n,h4,h6⟩:=I6 h3 h2;obtain ⟨m,b,rfl,h7,h8⟩:=dX h6;refine ⟨_,_,h1,h4,fr1,.ii .u8 _,σ,?_,trivial,h2,h8⟩;unfold Cn;simp only [ht,h7];rfl
 ·obtain ⟨v,h1,h2⟩:=Bq h hf;obtain ⟨n,h3,h4⟩:=Bq h2 hf;obtain ⟨w,h5,h6⟩:=BR h4;exact ⟨_,_,h1,h3,fr,.vv w false,σ,by rw [h5];rfl,DA,hf,h6⟩
theorem QH {s:List UInt8} {l h:Nat} {K:List UInt8->Option R} (hh:slS s l h K=some r):l<=h/\h<=s.length/\K ((s.drop l).take (h - l))=some r:=by
 obtain ⟨h1,h2⟩:=CO (show gd _ _=some r from hh);obtain ⟨h3,h4⟩:=CO h2;rw [Et,FL] at h4;rw [CB] at h3;exact ⟨Nat.le_of_ble_eq_true h1,Nat.le_of_ble_eq_true h3,h4⟩
theorem sW {t:TypeId} {x:V} {lo hi mx:Option V} {v:V} (h:sliceAt E t x lo hi mx σ=some v):v.one=true:=by
 unfold sliceAt at h
 repeat' split at h
 all_goals first | (cases h;rfl) | cases h | skip
 all_goals (simp only [Option.some.injEq] at h;subst h;split<;>rfl)
theorem tC {t:TypeId} {x:Operand} {lo hi mx:Option Operand} {K:Kt R} (h:QI E t fr x lo hi mx σ K=some r) (hf:Av fr F) :
 ∃ v l h m,F.ev x=some v/\Ct F.ev lo=some l/\Ct F.ev hi=some h/\Ct F.ev mx=some m/\Dx E F (keep σ (sliceAt E t v l h m σ)) K r:=by
 unfold QI at h;split at h
 ·rename_i hx ht;obtain ⟨fr1,s,h1,h2,h3⟩:=H5 h hf;obtain ⟨k,n,h4,h6⟩:=I6 h3 h2;obtain ⟨n,rfl,h7⟩:=Ip h6;obtain ⟨h8,h9,h10⟩:=QH h7;refine ⟨_,none,some (.int k (.ofNat n)),none,h1,rfl,by simp [Ct,h4],rfl,fr1,.ss _,σ,?_,trivial,h2,h10⟩;unfold sliceAt;simp only [ht,CL];rw [if_pos (by simp [h9])];rfl
 ·rename_i lx ht;obtain ⟨fr1,s,h1,h2,h3⟩:=H5 h hf;obtain ⟨k,n,h4,h6⟩:=I6 h3 h2;obtain ⟨n,rfl,h7⟩:=Ip h6;obtain ⟨h8,h9,h10⟩:=QH h7;rw [CB] at h8 h10;refine ⟨_,some (.int k (.ofNat n)),none,none,h1,by simp [Ct,h4],rfl,rfl,fr1,.ss _,σ,?_,trivial,h2,h10⟩;unfold sliceAt;simp only [ht,CL];rw [if_pos (by simp [h8])];rfl
 ·rename_i lx hx ht;obtain ⟨fr1,s,h1,h2,h3⟩:=H5 h hf;obtain ⟨k,n,h4,h6⟩:=I6 h3 h2;obtain ⟨k',m,h4',h6'⟩:=I6 h6 h2;obtain ⟨n,rfl,h7⟩:=Ip h6';obtain ⟨m,rfl,h7'⟩:=Ip h7;obtain ⟨h8,h9,h10⟩:=QH h7';refine ⟨_,some (.int k (.ofNat n)),some (.int k' (.ofNat m)),none,h1,by simp [Ct,h4],by simp [Ct,h4'],rfl,fr1,.ss _,σ,?_,trivial,h2,h10⟩;unfold sliceAt;simp only [ht,CL];rw [if_pos (by simp [h8,h9])];rfl
 ·obtain ⟨v,h1,h2⟩:=Bq h hf;obtain ⟨fr1,l,h3,h4,h5⟩:=Pp h2 hf;obtain ⟨fr2,hh,h6,h7,h8⟩:=Pp h5 h4;obtain ⟨fr3,m,h9,h10,h11⟩:=Pp h8 h7;obtain ⟨w,h12,h13⟩:=BR h11;exact ⟨v,l,hh,m,h1,h3,h6,h9,fr3,.vv w true,σ,by rw [h12];rfl,λ_=>sW h12,h10,h13⟩
end
section
variable {R:Type} {fr:SF} {F:Fr} {r:R} {E:Env} {σ:St}
theorem ZA {t:TypeId} {len:Nat} {l:List (Nat×V)} {v:V} {σ':St} (h:Cq E t len l σ=some (v,σ')):v.one=true:=by
 unfold Cq at h
 repeat' split at h
 all_goals cases h
 all_goals rfl
theorem nD {t:TypeId} {x y:V} {v:V} {σ':St} (h:Da E t x y σ=some (v,σ')):v.one=true:=by
 unfold Da at h
 repeat' split at h
 all_goals cases h
 all_goals rfl
theorem ZY {s d:TypeId} {x v:V} (h:GW E s d x σ=some v):v.one=true:=by
 unfold GW at h
 repeat' split at h
 all_goals first | (cases h;done) | (cases h;rfl)
theorem nH {s d:TypeId} {x v:V} {σ σ':St} (h:Io E s d x σ=some (v,σ')):v.one=true:=by
 unfold Io at h
 repeat' split at h
 all_goals first | (cases h;done) | (cases h;rfl)
theorem dZ {t:TypeId} {x i v:V} (h:indexAt E t x i=some v):v.one=true:=by
 unfold indexAt at h
 repeat' split at h
 all_goals first | (cases h;done) | (cases h;rfl)
theorem aV {t:TypeId} {x v:V} {f:Nat} (h:fieldAt E t x f=some v):v.one=true:=by
 unfold fieldAt at h
 repeat' split at h
 all_goals first | (cases h;done) | (cases h;rfl)
theorem mB {t:TypeId} {x v:V} (h:Gb E t x σ=some v):v.one=true:=by
 unfold Gb at h
 repeat' split at h
 all_goals first | (cases h;done) | (cases h;rfl)
theorem fA {v:V} (h:v.isAdr=true) (ev:Operand->Option V) (x:Operand) (hx:ev x=some v):Aq E ev (.nilCheck x) σ=some (v,σ)/\v.one=true:=by
 unfold Aq;simp only [hx];cases v<;>first | (cases h;done) | exact ⟨rfl,rfl⟩
theorem Tj {t:TypeId} {v:V} {k:IntKind} {n:Int}: indexAt E t v (.int k n)=indexAt E t v (.int .i64 n):=by
 unfold indexAt;cases E.P.underlying t with
 | none=>rfl
 | some d=>cases d<;>rfl
theorem Uj {o:Op} {K:Kt R} (h:opS E fr o σ K=some r) (hf:Av fr F):Dx E F (Aq E F.ev o σ) K r:=by
 unfold opS at h;split at h
 ·split at h
  ·rename_i x v hv;obtain ⟨h1,h2⟩:=CP hf hv;exact ⟨fr,v,σ,by simp only [Aq,h1];rfl,h2,hf,h⟩
  ·cases h
 ·split at h
  ·rename_i x v hv;obtain ⟨h1,h2⟩:=CP hf hv;exact ⟨fr,v,σ,by simp only [Aq,h1];rfl,h2,hf,h⟩
  ·cases h
 ·rename_i c a b;obtain ⟨fr1,cb,h1,h2,h3⟩:=FZ h hf;have pk: ∀ (p q:TV),F.ev a=some p.toV->F.ev b=some q.toV->Aq E F.ev (.pick c a b) σ=some (bK cb p.toV q.toV,σ):=by
   intro p q hp hq;simp only [Aq,h1];cases cb
   ·simp only [hq];rfl
   ·simp only [hp];rfl
  split at h3
  ·rename_i p q hp hq;have:=pk _ _ (CP h2 hp).1 (CP h2 hq).1;exact ⟨fr1,.bb _,σ,by rw [this];cases cb<;>rfl,trivial,h2,h3⟩
  ·rename_i k p k' q hp hq;cases hk:DZ k k' with
   | false=>rw [hk] at h3;cases h3
   | true =>
    rw [hk] at h3;have hk:=kEq hk;subst hk;have:=pk _ _ (CP h2 hp).1 (CP h2 hq).1;exact ⟨fr1,.ii k _,σ,by rw [this];cases cb<;>rfl,trivial,h2,h3⟩
  ·rename_i p hp hq;have h4:=CP h2 hp;have h5:=CP h2 hq;have:=pk _ _ h4.1 h5.1;cases cb with
   | true=>exact ⟨fr1,p,σ,this,h4.2,h2,h3⟩
   | false=>exact ⟨fr1,Dh,σ,this,h5.2,h2,h3⟩
  ·rename_i q hn hp hq;have h4:=CP h2 hp;have h5:=CP h2 hq;have:=pk _ _ h4.1 h5.1;cases cb with
   | true=>exact ⟨fr1,Dh,σ,this,h4.2,h2,h3⟩
   | false=>exact ⟨fr1,q,σ,this,h5.2,h2,h3⟩
  ·rename_i p q hp hq;have h4:=CP h2 hp;have h5:=CP h2 hq;have:=pk _ _ h4.1 h5.1;refine ⟨fr1,.vv _ _,σ,this,λho=>?_,h2,h3⟩;simp only [Bool.and_eq_true] at ho;cases cb
   ·exact TV.zAo h5.2 ho.2
   ·exact TV.zAo h4.2 ho.1
  ·cases h3
 ·split at h
  ·rename_i t z hz;rw [St.zAi] at h;exact ⟨fr,.vv (.ptr σ.n 0 0) true,_,by simp only [Aq,hz];rfl,λ_=>rfl,hf,h⟩
  ·cases h
 ·split at h
  ·rename_i t x v hv;obtain ⟨h1,h2⟩:=CP hf hv;rw [St.zAi] at h;have hc:(bC v.isOne [v.toV] v.toV.cellsF)=v.toV.cells:=by
    cases ho:v.isOne with
    | true=>exact (KK (TV.zAo h2 ho)).symm
    | false=>exact V.zAb _
   rw [hc] at h;exact ⟨fr,.vv (.ptr σ.n 0 0) true,_,by simp only [Aq,h1];rfl,λ_=>rfl,hf,h⟩
  ·cases h
 ·obtain ⟨l,h1,h2⟩:=Y8 h hf;simp only [Aq,h1];exact h2
 ·obtain ⟨l,h1,h2⟩:=Px h hf;obtain ⟨v,σ',h3,h4⟩:=Fz h2;exact ⟨fr,.vv v true,σ',by simp only [Aq,h1,h3];rfl,λ_=>ZA h3,hf,h4⟩
 ·obtain ⟨p,h1,h2⟩:=mM h hf;simp only [Aq,h1];exact h2
 ·obtain ⟨p,v,h1,h2,h3⟩:=uP h hf;simp only [Aq,h1,h2];exact h3
 ·obtain ⟨v,h1,h2⟩:=Bq h hf;obtain ⟨h3,h4⟩:=CO (show gd _ _=some r from h2);obtain ⟨h5,h6⟩:=fA (E:=E) (σ:=σ) h3 F.ev _ h1;exact ⟨fr,.vv v true,σ,h5,λ_=>h6,hf,h4⟩
 ·obtain ⟨a,b,h1,h2,h3⟩:=Y0 h hf;simp only [Aq,h1,h2];exact h3
 ·obtain ⟨fr1,b,h1,h2,h3⟩:=FZ h hf;exact ⟨fr1,.bb _,σ,by simp only [Aq,h1,unV];rw [Iq];rfl,trivial,h2,h3⟩
 ·split at h
  ·rename_i t x k ht;obtain ⟨fr1,n,h1,h2,h3⟩:=Ev h hf;rw [M8 rfl] at h3;exact ⟨fr1,.ii k _,σ,by simp only [Aq,h1,unV];rfl,trivial,h2,h3⟩
  ·cases h
 ·obtain ⟨v,h1,h2⟩:=Bq h hf;obtain ⟨w,h3,h4⟩:=BR h2;exact ⟨fr,.vv w false,σ,by simp only [Aq,h1,h3];rfl,DA,hf,h4⟩
 ·rename_i ts td xo;split at h
  ·rename_i k k' hs hd;obtain ⟨fr1,n,h1,h2,h3⟩:=Ev h hf;rw [OX rfl] at h3;have hss:FB E ts td=false:=by
    unfold FB
    split
    ·rename_i h5 h6;rw [hd] at h6;cases h6
    ·rfl
   exact ⟨fr1,.ii k' _,σ,by simp only [Aq,h1,hss,GW,hs,hd];rfl,trivial,h2,h3⟩
  ·rename_i hs hd;obtain ⟨fr1,n,h1,h2,h3⟩:=H5 h hf;have hss:FB E ts td=false:=by
    unfold FB
    split
    ·rename_i h5 h6;rw [hd] at h6;cases h6
    ·rfl
   exact ⟨fr1,.ss _,σ,by simp only [Aq,h1,hss,GW,hs,hd];rfl,trivial,h2,h3⟩
  ·cases hss:FB E ts td with
   | true =>
    rw [hss] at h
    replace h:(Bc fr xo λv=>pK (Io E ts td v σ) λv σ'=>K fr (.vv v true) σ')=some r:=h
    obtain ⟨v,h1,h2⟩:=Bq h hf;obtain ⟨w,σ1,h3,h4⟩:=Fz h2;exact ⟨fr,.vv w true,σ1,by simp only [Aq,h1,hss,if_true,h3];rfl,λ_=>nH h3,hf,h4⟩
   | false =>
    rw [hss] at h
    replace h:(Bc fr xo λv=>oK (GW E ts td v σ) λv=>K fr (.vv v true) σ)=some r:=h
    obtain ⟨v,h1,h2⟩:=Bq h hf;obtain ⟨w,h3,h4⟩:=BR h2;exact ⟨fr,.vv w true,σ,by simp only [Aq,h1,hss,h3];rfl,λ_=>ZY h3,hf,h4⟩
 ·split at h
  ·cases h
  ·cases h
  ·rename_i d hn hd;obtain ⟨v,h1,h2⟩:=Bq h hf;refine ⟨fr,.vv (.ifc _ v) true,σ,?_,λ_=>rfl,hf,h2⟩;simp only [Aq,h1,hd];cases d<;>first | rfl | (exact absurd hd (hn _))
 ·rename_i f first cap
  cases hc:first.isEmpty with
  | false=>rw [hc] at h;cases h
  | true =>
   rw [hc] at h;obtain ⟨vs,h1,h2⟩:=LD (show I7 fr cap.toList _=some r from h) hf;exact ⟨fr,.vv (.fn f vs) true,σ,by simp only [Aq,hc,h1,if_true];rfl,λ_=>rfl,hf,h2⟩
 ·split at h
  ·rename_i t k e ht;rw [St.zAi] at h;exact ⟨fr,.vv (.map σ.n) true,_,by simp only [Aq,ht,Ct];rfl,λ_=>rfl,hf,h⟩
  ·cases h
 ·split at h
  ·rename_i t x k e ht;obtain ⟨fr1,n,h1,h2,h3⟩:=Ev h hf;rw [St.zAi] at h3;exact ⟨fr1,.vv (.map σ.n) true,_,by simp only [Aq,ht,Ct,h1];rfl,λ_=>rfl,h2,h3⟩
  ·cases h
 ·obtain ⟨fr1,n,h1,h2,h3⟩:=Ev h hf;obtain ⟨fr2,m,h4,h5,h6⟩:=Ev h3 h2;obtain ⟨v,σ',h7,h8⟩:=Fz h6;exact ⟨fr2,.vv v true,σ',by simp only [Aq,h1,h4,h7];rfl,λ_=>nD h7,h5,h8⟩
 ·obtain ⟨v,l,hh,m,h1,h2,h3,h4,h5⟩:=tC h hf;simp only [Aq,h1,h2,h3,h4];exact h5
 ·unfold S9 at h;obtain ⟨v,h1,h2⟩:=Bq h hf;obtain ⟨w,h3,h4⟩:=BR h2;exact ⟨fr,.vv w true,σ,by simp only [Aq,h1,h3];rfl,λ_=>aV h3,hf,h4⟩
 ·obtain ⟨v,h1,h2⟩:=aX h hf;simp only [Aq,h1];exact h2
 ·obtain ⟨v,h1,h2⟩:=Bq h hf;obtain ⟨k,n,h4,h6⟩:=I6 h2 hf;obtain ⟨w,h7,h8⟩:=BR h6;exact ⟨fr,.vv w true,σ,by simp only [Aq,h1,h4,Tj (k:=k),h7];rfl,λ_=>dZ h7,hf,h8⟩
 ·obtain ⟨v,n,h1,h2,h3⟩:=eB h hf;simp only [Aq,h1,h2];exact h3
 ·obtain ⟨m,h1,h2⟩:=Bq h hf;obtain ⟨k,h3,h4⟩:=Bq h2 hf;obtain ⟨w,h7,h8⟩:=BR h4;exact ⟨fr,.vv w false,σ,by simp only [Aq,h1,h3,h7];rfl,DA,hf,h8⟩
 ·obtain ⟨m,h1,h2⟩:=Bq h hf;obtain ⟨k,h3,h4⟩:=Bq h2 hf;obtain ⟨x,h5,h6⟩:=Bq h4 hf;obtain ⟨w,h7,h8⟩:=BR h6;exact ⟨fr,Dh,w,by simp only [Aq,h1,h3,h5,h7];rfl,DA,hf,h8⟩
 ·obtain ⟨m,h1,h2⟩:=Bq h hf;obtain ⟨k,h3,h4⟩:=Bq h2 hf;obtain ⟨x,h5,h6⟩:=Bq h4 hf;obtain ⟨w,h7,h8⟩:=BR h6;exact ⟨fr,Dh,w,by simp only [Aq,h1,h3,h5,h7];rfl,DA,hf,h8⟩
 ·obtain ⟨m,h1,h2⟩:=Bq h hf;obtain ⟨k,h3,h4⟩:=Bq h2 hf;obtain ⟨v,σ',h7,h8⟩:=Fz h4;exact ⟨fr,.vv v false,σ',by simp only [Aq,h1,h3,h7];rfl,DA,hf,h8⟩
 ·obtain ⟨m,h1,h2⟩:=Bq h hf;obtain ⟨k,h3,h4⟩:=Bq h2 hf;obtain ⟨x,h5,h6⟩:=Bq h4 hf;obtain ⟨w,h7,h8⟩:=BR h6;exact ⟨fr,Dh,w,by simp only [Aq,h1,h3,h5,h7];rfl,DA,hf,h8⟩
 ·obtain ⟨t,h1,h2⟩:=Bq h hf;obtain ⟨vs,h3,h4⟩:=BR (show oK t.asT _=some r from h2);have:=V.zAV h3;subst this;obtain ⟨v,h5,h6⟩:=BR h4;rw [Dp] at h5;exact ⟨fr,.vv v false,σ,by simp only [Aq,h1,h5];rfl,DA,hf,h6⟩
 ·cases h
theorem Yj {v:V} {n:Nat} (h:v.asLen=some n) {t e:TypeId} (ht:E.P.underlying t=some (.slice e)):Gb E t v σ=some (.int .i64 n):=by
 unfold Gb;simp only [ht];cases v<;>cases h
 ·rfl
 ·rfl
 ·rw [CB]
 ·rfl
def YC (F:Fr) (f:List V->Option (V×St)) (xs:List Operand) (K:Kt R) (r:R):Prop:=∃ vs fr' tv σ',evs F.ev xs=some vs/\f vs=some (tv.toV,σ')/\tv.ok/\Av fr' F/\K fr' tv σ'=some r
theorem ZD {b:Builtin} {ts:List TypeId} {xs:List Operand} {K:Kt R} (h:OC E b ts xs fr σ K=some r) (hf:Av fr F):YC F (λvs=>DC E b ts vs σ) xs K r:=by
 unfold OC at h;split at h
 ·rename_i t ts' x;split at h
  ·rename_i ht;obtain ⟨fr1,l,h1,h2,h3⟩:=H5 h hf;have h3:fN (BN l) _=some r:=h3;rw [Ce,CB] at h3;exact ⟨[.str l],fr1,.ii .i64 _,σ,by simp only [evs,h1],by simp only [DC,Gb,ht];rfl,trivial,h2,h3⟩
  ·rename_i e ht;obtain ⟨v,h1,h2⟩:=Bq h hf;obtain ⟨n,h3,h4⟩:=BR (show oK v.asLen _=some r from h2);rw [Ce] at h4;exact ⟨[v],fr,.ii .i64 _,σ,by simp only [evs,h1],by simp only [DC,Yj (E:=E) (σ:=σ) h3 ht];rfl,trivial,hf,h4⟩
  ·obtain ⟨v,h1,h2⟩:=Bq h hf;obtain ⟨w,h3,h4⟩:=BR h2;exact ⟨[v],fr,.vv w true,σ,by simp only [evs,h1],by simp only [DC,h3];rfl,λ_=>mB h3,hf,h4⟩
 ·split at h
  ·rename_i t ts' x y k ht;obtain ⟨fr1,a,h1,h2,h3⟩:=Ev h hf;obtain ⟨fr2,b,h4,h5,h6⟩:=Ev h3 h2;refine ⟨[.int k a,.int k b],fr2,.ii k _,σ,by simp only [evs,h1,h4],?_,trivial,h5,h6⟩;have hk:DZ k k=true:=by cases k<;>rfl
   simp only [DC,Ib,MQ,hk,if_true,FK,Kf,decide_eq_true_eq];rfl
  ·cases h
 ·split at h
  ·rename_i t ts' x y k ht;obtain ⟨fr1,a,h1,h2,h3⟩:=Ev h hf;obtain ⟨fr2,b,h4,h5,h6⟩:=Ev h3 h2;refine ⟨[.int k a,.int k b],fr2,.ii k _,σ,by simp only [evs,h1,h4],?_,trivial,h5,h6⟩;have hk:DZ k k=true:=by cases k<;>rfl
   simp only [DC,Ib,MN,hk,if_true,FK,Kf,decide_eq_true_eq];rfl
  ·cases h
 ·obtain ⟨vs,h1,h2⟩:=LD h hf;obtain ⟨v,σ',h3,h4⟩:=Fz h2;exact ⟨vs,fr,.vv v false,σ',h1,h3,DA,hf,h4⟩
def Dk (pu:FuncId->Bool) (call:Call):Prop:=∀ f,pu f=true->∀ vs σ v σ',call f vs σ=some (v,σ')->σ'=σ
def IQ (E:Env) (call:Call) (F:Fr) (c:Go.Call) (σ:St):Option (V×St) :=
 match evs F.ev c.args.toList with
 | some vs=>match c.callee with
  | .builtin b=>DC E b c.argTypes.toList vs σ
  | .value f=>match F.ev f with
   | some (.fn g cap)=>call g (vs++cap) σ
   | _=>none
  | .invoke ..=>none
 | none=>none
theorem Rs {call:Call} {pu:FuncId->Bool} (hp:Dk pu call) {c:Go.Call} {K:Kt R} (h:Ld E call pu c fr σ K=some r) (hf:Av fr F):Dx E F (IQ E call F c σ) K r:=by
 unfold Ld at h;unfold IQ;split at h
 ·rename_i b hc;obtain ⟨vs,fr',tv,σ',h1,h2,h3,h4,h5⟩:=ZD h hf;refine ⟨fr',tv,σ',?_,h3,h4,h5⟩;simp only [h1,hc];exact h2
 ·rename_i f hc;obtain ⟨vs,h1,h2⟩:=LD h hf;have hev:F.ev (.func f)=some (.fn f []):=rfl;cases hpu:pu f with
  | true =>
   rw [hpu] at h2;simp only [bC] at h2;obtain ⟨v,σ',h3,h4⟩:=Fz h2;have:=hp f hpu vs σ v σ' h3;rw [this] at h3;refine ⟨fr,.vv v false,σ,?_,DA,hf,h4⟩;simp only [h1,hc,hev,List.append_nil];exact h3
  | false =>
   rw [hpu] at h2;simp only [bC] at h2;obtain ⟨v,σ',h3,h4⟩:=Fz h2;refine ⟨fr,.vv v false,σ',?_,DA,hf,h4⟩;simp only [h1,hc,hev,List.append_nil];exact h3
 ·rename_i f hne hc;obtain ⟨g,h1,h2⟩:=Bq h hf;obtain ⟨vs,h3,h4⟩:=LD h2 hf;obtain ⟨v,σ',h5,h6⟩:=Fz h4;refine ⟨fr,.vv v false,σ',?_,DA,hf,h6⟩;unfold JK at h5;split at h5
  ·rename_i g' cap;simp only [h3,hc,h1];exact h5
  ·cases h5
 ·cases h
end
end SS
namespace SS
open Go
noncomputable section
inductive SH where
 | one
 | adr (n:Nat)
 | app
 | grp (n:Nat) (l:List SH)
inductive CA where
 | at (x:V) (off:Nat)
 | el (t:TypeId) (x:V) (sz:Nat) (i:Int) (off:Nat)
def Cz:Option (Nat×Bool)->Option (Nat×Bool)->Bool
 | none,none=>true
 | some (i,a),some (j,b)=>Nat.beq i j&&(a==b)
 | _,_=>false
def Oh (d:Option Nat) (c:Nat):Bool:=match d with | some c'=>Nat.beq c c' | none=>false
def EZ:Option Nat->Option Nat->Bool
 | some a,some b=>!Nat.beq a b
 | _,_=>true
section
variable {R:Type}
abbrev EN (N:Nat) (gt:Option Nat) (d:Option Nat) (fr:SF) (tv:TV) (σ:St) (K:SF->St->Option R):Option R :=
 match d with
 | some d=>bC (Nat.blt d N&&EZ gt (some d)) (K (fr.setR d tv) σ) (none)
 | none=>K fr σ
def Cs (E:Env) (call:Call) (pu:FuncId->Bool) (N:Nat) (gt:Option Nat) (o:Oper) (fr:SF) (σ:St) (K:SF->St->Option R):Option R :=
 match o.op with
 | .call c=>Ld E call pu c fr σ λfr tv σ=>EN N gt o.dst fr tv σ K
 | .defer _=>none
 | op=>opS E fr op σ λfr tv σ=>EN N gt o.dst fr tv σ K
def Lw (E:Env) (s:TypeId) (f:Nat):Option Nat :=
 match E.P.underlying s with
 | some (.struct fs)=>match fs[f]? with
  | some fd=>match E.P.info? fd.type with
   | some i=>bC (Nat.beq i.size 0) (none) (some fd.offset)
   | none=>none
  | none=>none
 | _=>none
abbrev QL (E:Env) (op:Op) (fr:SF) (K:SF->CA->Option R):Option R :=
 match op with
 | .fieldAddr s x f=>match Lw E s f with
  | some o=>Bc fr x λp=>K fr (.at p o)
  | none=>none
 | .indexAddr t x i=>match E.P.underlying t with
  | some (.slice elem)=>match E.P.info? elem with
   | some inf=>Bc fr x λv=>Gj fr i λn=>K fr (.el t v inf.size n 0)
   | none=>none
  | _=>none
 | .nilCheck x=>Bc fr x λp=>K fr (.at p 0)
 | _=>none
def CA.on:CA->Nat->CA
 | .at x o,n=>.at x (Nat.add o n)
 | .el t x sz i o,n=>.el t x sz i (Nat.add o n)
def HY (x:Operand) (d:Nat):Bool:=match x with | .tmp t=>Nat.beq t d | _=>false
def Om (E:Env) (op:Op) (ca:CA) (d:Nat) (fr:SF) (σ:St) (K:Kt R):Option R :=
 match op with
 | .load t a=>bC (HY a d) ((match E.P.info? t,E.P.underlying t with
  | some inf,some ds=>match ca with
   | .at x off=>bC (Be ds) (ldN E inf.size x off σ λv=>K fr (.vv v false) σ) (ld1 E x off σ λv=>K fr (.vv v true) σ)
   | .el _ x sz i off=>bC (Be ds) (Bw sz inf.size x i off σ λv=>K fr (.vv v false) σ) (AZ sz x i off σ λv=>K fr (.vv v true) σ)
  | _,_=>none)) (none)
 | .store t a x=>bC (HY a d) ((match E.P.info? t,E.P.underlying t with
  | some inf,some ds=>bC (Be ds||!Nat.beq inf.size 1) (none) ((Jy fr x λfr v=>match ca with
   | .at y off=>st1 y off v.toV σ λσ'=>K fr Dh σ'
   | .el _ y sz i off=>K5 sz y i off v.toV σ λσ'=>K fr Dh σ'))
  | _,_=>none)) (none)
 | _=>none
def EW (N:Nat) (gt:Option Nat) (d:Nat) (fr:SF):Bool:=Nat.blt d N&&EZ gt (some d)&&(fr.getF d).isNone
def GV (E:Env) (N:Nat) (g:Option (Nat×Bool)) (gt:Option Nat):Nat->List Oper->CA->Nat->SF->St->(SF->St->Option R)->Option R
 | 0,o :: _,ca,d,fr,σ,K=>bC (Cz g o.guard) (Om E o.op ca d fr σ λfr tv σ=>EN N gt o.dst fr tv σ K) (none)
 | n+1,o :: os,ca,d,fr,σ,K=>bC (Cz g o.guard) ((match o.op,o.dst with
  | .fieldAddr s x f,some d'=>match Lw E s f with
   | some off=>bC (HY x d&&EW N gt d' fr) (GV E N g gt n os (ca.on off) d' fr σ K) (none)
   | none=>none
  | _,_=>none)) (none)
 | _,_,_,_,_,_,_=>none
def Ns (E:Env) (N:Nat) (g:Option (Nat×Bool)) (gt:Option Nat) (n:Nat) (os:List Oper) (fr:SF) (σ:St) (K:SF->St->Option R):Option R :=
 match n,os with
 | n+1,o :: os=>match o.dst with
  | some d=>bC (Cz g o.guard&&EW N gt d fr) (QL E o.op fr λfr ca=>bC (EW N gt d fr) (GV E N g gt n os ca d fr σ K) (none)) (none)
  | none=>none
 | _,_=>none
def Ih:Nat->List (Nat×Operand)->Bool
 | _,[]=>true
 | i,(j,_) :: r=>Nat.beq i j&&Ih (i+1) r
def agN (n:Nat) (v:V) (K:List V->Option R):Option R:=oK v.asA λcs=>gd (Nat.beq (BN cs) n) (gd (Ey V.isOne cs) (K cs))
def Nx (E:Env) (N:Nat) (g:Option (Nat×Bool)) (gt:Option Nat) (os:List Oper) (fr:SF) (σ:St) (K:SF->St->Option R):Option R :=
 match os with
 | o1 :: o2 :: _=>bC (Cz g o1.guard&&Cz g o2.guard) ((match o1.op,o1.dst,o2.op with
  | .buildSlice t len ps,some d,.call c=>match c.callee,c.args.toList,c.argTypes.toList with
   | .builtin .append,[s,.tmp d'],[t',u]=>match E.P.underlying t,E.P.underlying u with
    | some (.slice elem),some (.slice _)=>match E.P.info? elem,E.P.underlying elem,Cm E.P elem with
     | some inf,some ds,some z =>
      bC (Nat.beq d d'&&Nat.beq t t'&&EW N gt d fr&&!E.wlit t&&Nat.ble inf.bytes 16384&&Nat.beq z.cells.length inf.size&&Ih 0 ps.toList&&Nat.beq ps.toList.length len&&Nat.blt 0 len&&Nat.ble len 1000&&Nat.blt 0 inf.size&&Nat.ble inf.size 1000) (Bc fr s λsv=>bC (!Be ds&&Nat.beq inf.size 1) (Kr fr ps.toList λfr l=>bC (EW N gt d fr) (BQ elem 1 len (l.map λp=>p.2.toV) sv σ λv σ'=>EN N gt o2.dst fr (.vv v true) σ' K) (none)) ((match ps.toList with
       | [(_,x)]=>match sev fr x with
        | some (.aa cs)=>bC (Be ds&&Nat.beq cs.length inf.size) (BQ elem inf.size 1 cs sv σ λv σ'=>EN N gt o2.dst fr (.vv v true) σ' K) (none)
        | some (.vv v _)=>bC (Be ds) (agN inf.size v λcs=>BQ elem inf.size 1 cs sv σ λv σ'=>EN N gt o2.dst fr (.vv v true) σ' K) (none)
        | _=>none
       | _=>none))) (none)
     | _,_,_=>none
    | _,_=>none
   | _,_,_=>none
  | _,_,_=>none)) (none)
 | _=>none
def A7 (c:Bool) (σ:St) (X:Option (Bool×St)) (K:Bool->St->Option R):Option R:=Bool.rec (K false σ) (pK X K) c
def orK (c:Bool) (σ:St) (X:Option (Bool×St)) (K:Bool->St->Option R):Option R:=Bool.rec (pK X K) (K true σ) c
def JY (x:Operand) (b:Bool):Bool:=match x with | .const (.bool c)=>c==b | _=>false
def IL (N:Nat) (gt:Option Nat) (fr:SF) (os:List Oper):Bool:=os.all λo=>match o.dst with | some d=>EW N gt d fr | none=>true
def Jq (all:List Oper) (g:Nat×Bool):List Oper->List Nat->Bool
 | [],_=>true
 | o :: r,ds=>(match o.guard with
  | some (j,w)=>(Nat.beq j g.1&&(w==g.2))||(match all[j]? with | some p=>(match p.dst with | some d=>ds.any (Nat.beq d) | none=>false) | none=>false)
  | none=>false)&&(match o.dst with | some d=>Jq all g r (d :: ds) | none=>Jq all g r ds)
end
def DT (E:Env) (call:Call) (pu:FuncId->Bool) (N:Nat) (all:List Oper):Nat->{R:Type}->Option (Nat×Bool)->Option Nat->List SH->List Oper->SF->St->(SF->St->Option R)->Option R
 | 0,_,_,_,_,_,_,_,_=>none
 | _+1,_,_,_,[],[],fr,σ,K=>K fr σ
 | k+1,_,g,gt,.one :: hs,o :: os,fr,σ,K=>bC (Cz g o.guard) (Cs E call pu N gt o fr σ λfr σ=>DT E call pu N all k g gt hs os fr σ K) (none)
 | k+1,_,g,gt,.adr n :: hs,os,fr,σ,K=>Ns E N g gt n os fr σ λfr σ=>DT E call pu N all k g gt hs (os.drop (n+1)) fr σ K
 | k+1,_,g,gt,.app :: hs,os,fr,σ,K=>Nx E N g gt os fr σ λfr σ=>DT E call pu N all k g gt hs (os.drop 2) fr σ K
 | k+1,_,g,gt,.grp n l :: hs,os,fr,σ,K=>match os.drop n with
  | p :: os'=>match p.op,p.dst,(os.take n) with
   | .pick (.tmp c) a b,some d,o :: _=>match o.guard with
    | some (j,w)=>match all[j]? with
     | some q=>bC (Cz g p.guard&&Oh q.dst c&&IL N gt fr (os.take n)&&EZ (some c) (some d)&&Nat.blt d N&&EZ gt (some d)&&Jq all (j,w) (os.take n) []) (Eu fr (.tmp c) λfr cb=>bC (IL N gt fr (os.take n)&&IL N (some c) fr (os.take n)) ((bC (w) ((bC (JY b false) (A7 cb σ (DT E call pu N all k (some (j,w)) (some c) l (os.take n) fr σ λfr σ=>Eu fr a λ_ x=>some (x,σ)) λx σ=>DT E call pu N all k g gt hs os' (fr.setR d (.bb x)) σ K) (none))) ((bC (JY a true) (orK cb σ (DT E call pu N all k (some (j,w)) (some c) l (os.take n) fr σ λfr σ=>Eu fr b λ_ x=>some (x,σ)) λx σ=>DT E call pu N all k g gt hs os' (fr.setR d (.bb x)) σ K) (none))))) (none)) (none)
     | none=>none
    | none=>none
   | _,_,_=>none
  | []=>none
 | _,_,_,_,_,_,_,_,_=>none
end
end SS
