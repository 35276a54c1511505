/-
  part 13 of the proof; no condition.
-/
import Derived.Test.YtglndmmlghpdpaaGreatDoorPL
import Derived.Shelf.Strings.OnBuilder
import Derived.Shelf.Strconv.Itoa3
import Derived.Lib.AppendIntMem
import Derived.ProofKit
import Derived.Shelf.Strconv.AtoiInnerAll
import Derived.Lib.AtoiErrMem
import Derived.Shelf.Strconv.Clone
import Derived.JoinedCond
import Derived.ChangeShapes
import Derived.Test.YtglndmmlghpdpaaGreatDoorTie
import Derived.Test.YtglndmmlghpdpaaGreatDoorCards
import Derived.OpenShut
import Derived.LaidMore
import Derived.Lay
import Derived.SevenTiedAt
import Derived.Stop.Joined
import Derived.ChangeMaps5
namespace Go.Proofs.YtglndmmlghpdpaaGreatDoor
open Go SS
set_option maxRecDepth 100000
noncomputable section
theorem aq (lm:List (FuncId×Ac)) (f:FuncId) (g:Ac) (h:AV lm f=some g):AU env (AY env pu (AV lm) (AX []) 1) f g:=Bj h (Nat.le_refl 1)
abbrev LT:=List (FuncId×Ac)
abbrev MO (l:LT):=EB env (AV l)
def L_0:List (FuncId×Ac):=[]
theorem M_0:EB env (AV L_0):=MP
def S_54:Ac:=BS tU8 BB (λ_=>True) SS.B6
theorem K_54:Ag env 54 S_54:=kc1 (lm:=L_0) (lt:=[]) Ar M_0 Au jE λx _=>C8 (k:=1) (k':=1) ⟨_,Zz _ _ _ x⟩
def L_1:LT:=(54,S_54) :: L_0
theorem M_1:MO L_1:=Ap K_54 M_0
def S_53:Ac:=BS tU8 BB (λ_=>True) SS.CY
theorem K_53:Ag env 53 S_53:=kc1 (lm:=L_1) (lt:=[]) Ar M_1 Au jD λx _=>C8 (k:=1) (k':=1) ⟨_,mW _ _ _ x⟩
def L_2:LT:=(53,S_53) :: L_1
theorem M_2:MO L_2:=Ap K_53 M_1
def S_103:Ac:=BS AJ AJ (λ_=>True) SS.arity
theorem K_103:Ag env 103 S_103:=kc1 (lm:=L_2) (lt:=[]) Ar M_2 Au fG λx _=>C8 (k:=1) (k':=1) ⟨_,Yg _ _ _ x⟩
def L_3:LT:=(103,S_103) :: L_2
theorem M_3:MO L_3:=Ap K_103 M_2
def S_124:Ac:=BS AJ AJ (λ_=>True) strength
theorem K_124:Ag env 124 S_124:=kc1 (lm:=L_3) (lt:=[]) Ar M_3 Au fU λx _=>C8 (k:=1) (k':=1) ⟨_,uU _ _ x _⟩
def L_4:LT:=(124,S_124) :: L_3
theorem M_4:MO L_4:=Ap K_124 M_3
def S_30:Ac:=BS AJ BB (λ_=>True) (λc=>decide (-999<=c)&&decide (c<=999))
theorem K_30:Ag env 30 S_30:=kc1 (lm:=L_4) (lt:=[]) Ar M_4 Au iG λx _=>C8 (k:=1) (k':=1) ⟨_,xD _ _ _ x⟩
def L_5:LT:=(30,S_30) :: L_4
theorem M_5:MO L_5:=Ap K_30 M_4
def S_57:Ac:=BS AJ BB (λ_=>True) (λc=>decide (1<=c)&&decide (c<=999))
theorem K_57:Ag env 57 S_57:=kc1 (lm:=L_5) (lt:=[]) Ar M_5 Au jH λx _=>C8 (k:=1) (k':=1) ⟨_,dR _ _ _ x⟩
def L_6:LT:=(57,S_57) :: L_5
theorem M_6:MO L_6:=Ap K_57 M_5
def S_59:Ac:=Bt AP AC AJ (λm _=>Ae m) (λm s=>m.variable s)
theorem K_59:Ag env 59 S_59:=kc2 (lm:=L_6) (lt:=[]) Ar M_6 Au jJ λm s h=>by
 have hl:=h.vars;obtain ⟨σ,e⟩:=wZ (call:=AY env pu (AV L_6) (AX []) 1) (k:=2000000) m s h.vars (by omega);exact ⟨1,2000000,_,σ,e,BV (t:=AJ)⟩
def L_7:LT:=(59,S_59) :: L_6
theorem M_7:MO L_7:=Ap K_59 M_6
def S_55:Ac:=Bt AP AC AJ (λm _=>Ae m) (λm s=>m.process s)
theorem K_55:Ag env 55 S_55:=kc2 (lm:=L_7) (lt:=[]) Ar M_7 Au jF λm s h=>by
 have hl:=h.procs;obtain ⟨σ,e⟩:=qG (call:=AY env pu (AV L_7) (AX []) 1) (k:=2000000) m s h.procs (by omega);exact ⟨1,2000000,_,σ,e,BV (t:=AJ)⟩
def L_8:LT:=(55,S_55) :: L_7
theorem M_8:MO L_8:=Ap K_55 M_7
def S_45:Ac:=Jt AP AJ AC AJ (λm p _=>Ae m/\p<m.procs.length) AQ.place
theorem K_45:Ag env 45 S_45:=kc3 (lm:=L_8) (lt:=[]) Ar M_8 Au iW λm p s h=>C8 (k:=1) (k':=2000000) (pR m p s h.2 λq hq=>⟨(h.1.proc q hq).2.1,by have:=(h.1.proc q hq).2.1;omega⟩)
def L_9:LT:=(45,S_45) :: L_8
theorem M_9:MO L_9:=Ap K_45 M_8
def S_31:Ac:=BS (AA AC) BB (λl=>l.length<1000000) twice
theorem K_31:Ag env 31 S_31:=kc1 (lm:=L_9) (lt:=[]) Ar M_9 Au iH λl h=>C8 (k:=1) (k':=2000000) ⟨_,wB l h (by have:=h;omega) _⟩
def L_10:LT:=(31,S_31) :: L_9
theorem M_10:MO L_10:=Ap K_31 M_9
def S_29:Ac:=BS AC BB (λs=>s.length<1000000) isWord
theorem K_29:Ag env 29 S_29:=kc1 (lm:=L_10) (lt:=[]) Ar M_10 Au iF λs h=>C8 (k:=1) (k':=2000000) ⟨_,kR (λc τ=>AU.c1 (aq L_10 53 S_53 rfl) (x:=c) trivial τ) (λc τ=>AU.c1 (aq L_10 54 S_54 rfl) (x:=c) trivial τ) s h (by have:=h;omega) _⟩
def L_11:LT:=(29,S_29) :: L_10
theorem M_11:MO L_11:=Ap K_29 M_10
def S_56:Ac:=BS AC (DV AC BB) (λs=>s.length<1000000) (λs=>(s.dropLast,Eb s))
theorem K_56:Ag env 56 S_56:=kc1 (lm:=L_11) (lt:=[]) Ar M_11 Au jG λs h=>C8 (k:=1) (k':=2000000) ⟨_,ZT (λs τ h=>AU.c1 (aq L_11 29 S_29 rfl) (x:=s) h τ) s h _⟩
def L_12:LT:=(56,S_56) :: L_11
theorem M_12:MO L_12:=Ap K_56 M_11
def S_77:Ac:=BS (AA Al) BB Ci Cl
theorem K_77:Ag env 77 S_77:=kc1 (lm:=L_12) (lt:=[]) Ar M_12 Au jZ λl h=>C8 (k:=1) (k':=2000000) (rR (λs τ h=>AU.c1 (aq L_12 29 S_29 rfl) (x:=s) h τ) (λn τ=>AU.c1 (aq L_12 103 S_103 rfl) (x:=n) trivial τ) l h (by have:=h.1;omega) _)
def L_13:LT:=(77,S_77) :: L_12
theorem M_13:MO L_13:=Ap K_77 M_12
def S_58:Ac:=Bt AP (AA Al) BB (λm l=>Ae m/\Ci l) AQ.known
theorem K_58:Ag env 58 S_58:=kc2 (lm:=L_13) (lt:=[]) Ar M_13 Au jI λm l h=>C8 (k:=1) (k':=2000000) (lT ⟨λs τ h=>AU.c1 (aq L_13 29 S_29 rfl) (x:=s) h τ,λm s τ h=>AU.c2 (aq L_13 59 S_59 rfl) (x:=m) (y:=s) h τ,λm s τ h=>AU.c2 (aq L_13 55 S_55 rfl) (x:=m) (y:=s) h τ,λm p s τ h h2=>AU.c3 (aq L_13 45 S_45 rfl) (x:=m) (y:=p) (z:=s) ⟨h,h2⟩ τ,λl τ h=>AU.c1 (aq L_13 77 S_77 rfl) (x:=l) h τ⟩ m l h.1 h.2 (by have:=h.2.1;omega))
def L_14:LT:=(58,S_58) :: L_13
theorem M_14:MO L_14:=Ap K_58 M_13
def S_32:Ac:=Bt AP BF BB (λm t=>Ae m/\Dl t) AQ.rightT
theorem K_32:Ag env 32 S_32:=kc2 (lm:=L_14) (lt:=[]) Ar M_14 Au iI λm t h=>C8 (k:=1) (k':=2000000) (rM ⟨λs τ h=>AU.c1 (aq L_14 29 S_29 rfl) (x:=s) h τ,λm s τ h=>AU.c2 (aq L_14 59 S_59 rfl) (x:=m) (y:=s) h τ,λm s τ h=>AU.c2 (aq L_14 55 S_55 rfl) (x:=m) (y:=s) h τ,λm p s τ h h2=>AU.c3 (aq L_14 45 S_45 rfl) (x:=m) (y:=p) (z:=s) ⟨h,h2⟩ τ,λl τ h=>AU.c1 (aq L_14 77 S_77 rfl) (x:=l) h τ⟩ (λs τ h=>AU.c1 (aq L_14 56 S_56 rfl) (x:=s) h τ) (λc τ=>AU.c1 (aq L_14 57 S_57 rfl) (x:=c) trivial τ) (λm l τ h h2=>AU.c2 (aq L_14 58 S_58 rfl) (x:=m) (y:=l) ⟨h,h2⟩ τ) m t h.1 h.2 (by have:=h.2.2.2.2.2.2.1;omega))
def L_15:LT:=(32,S_32) :: L_14
theorem M_15:MO L_15:=Ap K_32 M_14
def S_8:Ac:=BS AP BB Ae AQ.right
theorem K_8:Ag env 8 S_8:=kc1 (lm:=L_15) (lt:=[]) Ar M_15 Au j3 λm h=>C8 (k:=1) (k':=2000000) (rH ⟨λs τ h=>AU.c1 (aq L_15 29 S_29 rfl) (x:=s) h τ,λc τ=>AU.c1 (aq L_15 30 S_30 rfl) (x:=c) trivial τ,λv l τ hv h=>AU.f1 (aq L_15 31 S_31 rfl) (x:=l) h hv (.inr rfl),λm t τ h h2=>AU.c2 (aq L_15 32 S_32 rfl) (x:=m) (y:=t) ⟨h,h2⟩ τ⟩ m h (by have:=h.vars;omega) (by have:=h.procs;omega) (λp hp=>by have:=(h.proc p hp).2.1;omega) (by have:=h.trans;omega))
def L_16:LT:=(8,S_8) :: L_15
theorem M_16:MO L_16:=Ap K_8 M_15
def S_10:Ac:=Bt AC tU8 (AA AC) (λs c=>s.length<1900000/\∃ b,c=by8 b) (λs c=>cut (UInt8.ofNat c.toNat) s)
theorem K_10:Ag env 10 S_10:=kc2 (lm:=L_16) (lt:=[]) Ar M_16 Au fC λs c h=>by
 obtain ⟨h1,b,rfl⟩:=h;obtain ⟨v,τ,q,g1,g2⟩:=Ze (call:=AY env pu (AV L_16) (AX []) 1) (k:=2000000) s b h1 (by omega);rw [OE];exact ⟨1,2000000,v,τ,g1,QR g2⟩
def L_17:LT:=(10,S_10) :: L_16
theorem M_17:MO L_17:=Ap K_10 M_16
def S_47:Ac:=BS AC (AA AC) (λs=>s.length<999999) BI
theorem K_47:Ag env 47 S_47:=kc1 (lm:=L_17) (lt:=[]) Ar M_17 Au iX λs h=>by
 obtain ⟨v,τ,q,g1,g2⟩:=xH (call:=AY env pu (AV L_17) (AX []) 1) (λs c τ h=>by have:=AU.c2 (aq L_17 10 S_10 rfl) (x:=s) (y:=by8 c) ⟨by omega,c,rfl⟩ τ;rw [OE] at this;exact this) (k:=2000000) s h (by omega);exact ⟨1,2000000,v,τ,g1,QR g2⟩
def L_18:LT:=(47,S_47) :: L_17
theorem M_18:MO L_18:=Ap K_47 M_17
end
end Go.Proofs.YtglndmmlghpdpaaGreatDoor
namespace Go.Proofs.YtglndmmlghpdpaaGreatDoor
open Go SS
set_option maxRecDepth 100000
noncomputable section
theorem OT {C:SS.Call} (h:AU env C 10 S_10) (s:B) (c:UInt8) (τ:St) (hs:s.length<1900000):C 10 [.str s,.int .u8 (by8 c)] τ=some ((AA AC).enc (cut c s),τ):=by
 have:=AU.c2 (a:=AC) (b:=tU8) (c:=AA AC) (show AU env C 10 (Bt AC tU8 (AA AC) (λs c=>s.length<1900000/\∃ b,c=by8 b) (λs c=>cut (UInt8.ofNat c.toNat) s)) from h) (x:=s) (y:=by8 c) ⟨hs,c,rfl⟩ τ;rw [OE] at this;exact this
def Nj:Ac:=Bt AC BB (DV AJ BB) (λs g=>s.length<1900000/\g=false) (λs _=>CG s)
theorem Xy:Ag env 37 Nj:=kc2 (lm:=L_18) (lt:=[]) Ar M_18 Au Tu λs g h=>by
 obtain ⟨h1,rfl⟩:=h;have e:=Nw (call:=AY env pu (AV L_18) (AX []) 1) (k:=2000000) (λc τ=>AU.c1 (show AU env (AY env pu (AV L_18) (AX []) 1) 54 S_54 from Bj rfl (Nat.le_refl 1)) (x:=c) trivial τ) s h1 (by omega) .empty;exact ⟨1,2000000,_,_,e,BV (t:=DV AJ BB)⟩
def KC:List (FuncId×Ac):=(37,Nj) :: L_18
theorem X0:EB env (AV KC):=Ap Xy M_18
def S_37:Ac:=Bt AC BB (DV AJ BB) (λs _=>s.length<1900000) amount
theorem K_37:Ag env 37 S_37:=kc2 (lm:=KC) (lt:=[]) Ar X0 Au Tu λs g h=>by
 have e:=YY (call:=AY env pu (AV KC) (AX []) 1) (k:=2000000) (λc τ=>AU.c1 (show AU env (AY env pu (AV KC) (AX []) 1) 54 S_54 from Bj rfl (Nat.le_refl 1)) (x:=c) trivial τ)
  (λs τ h=>AU.c2 (show AU env (AY env pu (AV KC) (AX []) 1) 37 Nj from Bj rfl (Nat.le_refl 1)) (x:=s) (y:=false) ⟨h,rfl⟩ τ) s g h (by omega) .empty
 exact ⟨1,2000000,_,_,e,BV (t:=DV AJ BB)⟩
def L_19:LT:=(37,S_37) :: L_18
theorem M_19:MO L_19:=Ap K_37 M_18
def S_50:Ac:=Bt AC AJ AC (λs n=>s.length<1000000/\0<=n/\n<10) (λs n=>Cb s n.toNat)
theorem K_50:Ag env 50 S_50:=kc2 (lm:=L_19) (lt:=[]) Ar M_19 Au jA λs n h=>by
 obtain ⟨h1,h2,h3⟩:=h;obtain ⟨n,rfl⟩: ∃ m:Nat,n=(m:Int):=⟨n.toNat,by omega⟩
 rw [Int.toNat_natCast];have e:=sV (call:=AY env pu (AV L_19) (AX []) 1) (k:=2000000) s n h1 (by omega) (by omega) (by omega) .empty;exact ⟨1,2000000,_,_,e,BV (t:=AC)⟩
def L_20:LT:=(50,S_50) :: L_19
theorem M_20:MO L_20:=Ap K_50 M_19
def S_48:Ac:=BS (AA AC) (DV Az BB) (λl=>l.length<1000000/\∀ s∈l,s.length<1000000) parseVar
theorem K_48:Ag env 48 S_48:=kc1 (lm:=L_20) (lt:=[]) Ar M_20 Au iY λl h=>by
 obtain ⟨σ,e⟩:=o9 (call:=AY env pu (AV L_20) (AX []) 1) (k:=2000000) (λs g τ h=>AU.c2 (aq L_20 37 S_37 rfl) (x:=s) (y:=g) (show s.length<1900000 by omega) τ) l h.1 h.2;exact ⟨1,2000000,_,σ,e,BV (t:=DV Az BB)⟩
def L_21:LT:=(48,S_48) :: L_20
theorem M_21:MO L_21:=Ap K_48 M_20
def Gr (N:Nat):Ac:=BS Vw AC (λn=>0<=n/\n<(N:Int)) (λn=>Bp n.toNat)
theorem Xz: ∀ j N:Nat,N<=10 ^ j->N<=4000000->Ag env 89 (Gr N):=by
 intro j
 induction j with
 | zero =>
  intro N hN _;refine kc1 (lm:=[]) (lt:=[]) Ar MP Au Tv λn h=>?_
  have hn:n=0:=by have:N<=1:=hN;omega
  subst hn;have e:=pW (call:=AY env pu (AV []) (AX []) 1) (k:=2000000) 0 (by omega) (λm τ h=>by omega) (by omega) .empty;exact ⟨1,2000000,_,_,e,BV (t:=AC)⟩
 | succ j ih =>
  intro N hN hN2;have hp:10 ^ (j+1)=10 ^ j*10:=Nat.pow_succ ..;have k1:Ag env 89 (Gr (min N (10 ^ j))):=ih (min N (10 ^ j)) (Nat.min_le_right _ _) (by omega);have hm:EB env (AV [(89,Gr (min N (10 ^ j)))]):=Ap k1 MP;show Ag env 89 (BS Vw AC (λn=>0<=n/\n<(N:Int)) (λn=>Bp n.toNat));refine kc1 (lm:=[(89,Gr (min N (10 ^ j)))]) (lt:=[]) Ar hm Au Tv λn h=>?_
  obtain ⟨h1,h2⟩:=h;obtain ⟨n,rfl⟩: ∃ m:Nat,n=(m:Int):=⟨n.toNat,by omega⟩
  rw [Int.toNat_natCast];have hlt:n<N:=by omega
  have hA:AU env (AY env pu (AV [(89,Gr (min N (10 ^ j)))]) (AX []) 1) 89 (Gr (min N (10 ^ j))):=Bj rfl (Nat.le_refl 1);have e:=pX (call:=AY env pu (AV [(89,Gr (min N (10 ^ j)))]) (AX []) 1) (k:=2000000) n (by omega) (λh10 τ=>by
   have:=AU.c1 hA (x:=((n / 10:Nat):Int)) ⟨by omega,by omega⟩ τ;rw [Int.toNat_natCast] at this;exact this) .empty
  exact ⟨1,2000000,_,_,e,BV (t:=AC)⟩
def S_89:Ac:=Gr 4000000
theorem K_89:Ag env 89 S_89:=Xz 7 4000000 (by decide) (by decide)
def L_22:LT:=(89,S_89) :: L_21
theorem M_22:MO L_22:=Ap K_89 M_21
def S_66:Ac:=BS AJ AC (λn=>-1000000<=n/\n<=1000000) BK
theorem K_66:Ag env 66 S_66:=kc1 (lm:=L_22) (lt:=[]) Ar M_22 Au jO λn h=>by
 have e:=Zt (call:=AY env pu (AV L_22) (AX []) 1) (k:=2000000) n h.1 h.2 (λm τ h=>by
  have:=AU.c1 (aq L_22 89 S_89 rfl) (x:=(m:Int)) ⟨by omega,by omega⟩ τ;rw [Int.toNat_natCast] at this;exact this) .empty
 exact ⟨1,2000000,_,_,e,BV (t:=AC)⟩
def L_23:LT:=(66,S_66) :: L_22
theorem M_23:MO L_23:=Ap K_66 M_22
def S_100:Ac:=BS (AA Bg) BB GQ KP
theorem K_100:Ag env 100 S_100:=kc1 (lm:=L_23) (lt:=[]) Ar M_23 Au fD λl h=>by
 have hl:=h.1;have e:=rG (call:=AY env pu (AV L_23) (AX []) 1) (k:=2000000) (λs τ h=>AU.c1 (aq L_23 29 S_29 rfl) (x:=s) h τ) (λl τ h=>AU.c1 (aq L_23 77 S_77 rfl) (x:=l) h τ) l h (by omega) .empty;exact ⟨1,2000000,_,_,e,BV (t:=BB)⟩
def L_24:LT:=(100,S_100) :: L_23
theorem M_24:MO L_24:=Ap K_100 M_23
theorem Vc: ∃ F:B->B,∀ s,(1<=s.length/\s.length<1000000)->(∃ σ,t122 (AY env pu (AV []) (AX []) 1) 2000000 [.str s] .empty=some (.str (F s),σ))/\(F s).length<=s.length :=
 Eh (P:=λs:B=>1<=s.length/\s.length<1000000) (R:=λs r=>(∃ σ,t122 (AY env pu (AV []) (AX []) 1) 2000000 [.str s] .empty=some (.str r,σ))/\r.length<=s.length) λs h=>by
  obtain ⟨r,σ,e1,e2⟩:=sP (call:=AY env pu (AV []) (AX []) 1) (k:=2000000) s h.2 h.1 (by omega);exact ⟨r,⟨σ,e1⟩,e2⟩
def sgF:B->B:=Vc.choose
theorem VW: ∀ s,(1<=s.length/\s.length<1000000)->(∃ σ,t122 (AY env pu (AV []) (AX []) 1) 2000000 [.str s] .empty=some (.str (sgF s),σ))/\(sgF s).length<=s.length:=Vc.choose_spec
def S_122:Ac:=BS AC AC (λs=>1<=s.length/\s.length<1000000) sgF
theorem K_122:Ag env 122 S_122:=kc1 (lm:=[]) (lt:=[]) Ar MP Au fQ λs h=>by
 obtain ⟨σ,e⟩:=(VW s h).1;exact ⟨1,2000000,_,σ,e,BV (t:=AC)⟩
def L_25:LT:=(122,S_122) :: L_24
theorem M_25:MO L_25:=Ap K_122 M_24
theorem RW: ∃ F:BZ×Int->Int,∀ x:BZ×Int,True->(∃ σ,t147 (AY env pu (AV L_25) (AX []) 1) 2000000 [BJ.enc x.1,.int .i64 x.2] .empty=some (.int .i64 (F x),σ))/\(F x=0\/(6<=F x/\F x<=16/\x.1.kind=4)) :=
 Eh (P:=λ_:BZ×Int=>True) (R:=λx n=>(∃ σ,t147 (AY env pu (AV L_25) (AX []) 1) 2000000 [BJ.enc x.1,.int .i64 x.2] .empty=some (.int .i64 n,σ))/\(n=0\/(6<=n/\n<=16/\x.1.kind=4))) λx _=>by
  obtain ⟨n,σ,e1,e2⟩:=Y2 (call:=AY env pu (AV L_25) (AX []) 1) (k:=2000000) (λn τ=>AU.c1 (show AU env (AY env pu (AV L_25) (AX []) 1) 124 S_124 from Bj rfl (Nat.le_refl 1)) (x:=n) trivial τ) x.1 x.2 (by omega);exact ⟨n,⟨σ,e1⟩,e2⟩
def JG:BZ×Int->Int:=RW.choose
theorem RV: ∀ x:BZ×Int,True->(∃ σ,t147 (AY env pu (AV L_25) (AX []) 1) 2000000 [BJ.enc x.1,.int .i64 x.2] .empty=some (.int .i64 (JG x),σ))/\(JG x=0\/(6<=JG x/\JG x<=16/\x.1.kind=4)):=RW.choose_spec
def S_147:Ac:=Bt BJ AJ AJ (λ_ _=>True) (λt n=>JG (t,n))
theorem K_147:Ag env 147 S_147:=kc2 (lm:=L_25) (lt:=[]) Ar M_25 Au gM λt n _=>by
 obtain ⟨σ,e⟩:=(RV (t,n) trivial).1;exact ⟨1,2000000,_,σ,e,BV (t:=AJ)⟩
def L_26:LT:=(147,S_147) :: L_25
theorem M_26:MO L_26:=Ap K_147 M_25
end
end Go.Proofs.YtglndmmlghpdpaaGreatDoor
namespace Go.Proofs.YtglndmmlghpdpaaGreatDoor
open Go SS
set_option maxRecDepth 100000
noncomputable section
theorem QY {τ:St} {vs us:List V} (hk:V.kind.kinds vs≠0) (h:vs.mapM (frz env τ 63)=some us):(V.tup vs).kind≠0/\frz env τ 64 (.tup vs)=some (.tup us):=by
 refine ⟨by rw [HZ];exact hk,?_⟩;show (match vs.mapM (frz env τ 63) with | some ys=>some (V.tup ys) | none=>none)=_;rw [h]
theorem KW {τ:St} {v u:V} (hk:v.kind≠0) (h:frz env τ 64 v=some u):Bn env τ v u:=.inr ⟨hk,h⟩
theorem UB: ∀ r:Gp,(D9 r).kind=0
 | .toks l=>by show (V.tup _).kind=0;rw [HZ,BM,BM,BM,(AA BJ).zero];rfl
 | .none _ _=>rfl
theorem Vx: ∀ r:Gs,(Ec r).kind=0
 | .terms l a=>by show (V.tup _).kind=0;rw [HZ,BM,BM,BM,(AA Al).zero];rfl
 | .none _ _=>rfl
theorem Ps: ∀ r:IE,(Gi r).kind=0
 | .terms l=>by show (V.tup _).kind=0;rw [HZ,BM,BM,BM,(AA Al).zero];rfl
 | .none _ _=>rfl
theorem SQ: ∀ r:IB,(FX r).kind=0
 | .effs l=>by show (V.tup _).kind=0;rw [HZ,BM,BM,(AA Bg).zero];rfl
 | .none=>rfl
instance:Inhabited Gp:=⟨.none 0 0⟩
instance:Inhabited Gs:=⟨.none 0 0⟩
instance:Inhabited IE:=⟨.none 0 0⟩
instance:Inhabited IB:=⟨.none⟩
instance:Inhabited Br:=⟨⟨0,[],[],[],[],[],[]⟩⟩
instance:Inhabited AQ:=⟨⟨[],[],[]⟩⟩
instance:Inhabited BG:=⟨⟨[],[]⟩⟩
theorem UC: ∃ F:B->Gp,∀ s,True->(∃ v σ,t98 (AY env pu (AV L_26) (AX []) 1) 2000000 [.str s] .empty=some (v,σ)/\Bn env σ v (D9 (F s)))/\KD (F s) :=
 Eh (P:=λ_:B=>True) (R:=λs r=>(∃ v σ,t98 (AY env pu (AV L_26) (AX []) 1) 2000000 [.str s] .empty=some (v,σ)/\Bn env σ v (D9 r))/\KD r) λs _=>by
  obtain ⟨v,σ,e1,e2⟩:=mG (call:=AY env pu (AV L_26) (AX []) 1) (k:=2000000) (λc τ=>AU.c1 (show AU env (AY env pu (AV L_26) (AX []) 1) 54 S_54 from Bj rfl (Nat.le_refl 1)) (x:=c) trivial τ)
   (λc τ=>AU.c1 (show AU env (AY env pu (AV L_26) (AX []) 1) 53 S_53 from Bj rfl (Nat.le_refl 1)) (x:=c) trivial τ) sgF
   (λs τ h1 h2=>AU.c1 (show AU env (AY env pu (AV L_26) (AX []) 1) 122 S_122 from Bj rfl (Nat.le_refl 1)) (x:=s) ⟨h1,h2⟩ τ) (λs h1 h2=>(VW s ⟨h1,h2⟩).2) s (by omega)
  rcases e2 with ⟨x,toks,b,rfl,hL,hT,h1⟩ | ⟨e,a,rfl,h1,h2,h3⟩
  ·have hk:=Il hL;obtain ⟨q1,q2⟩:=QY (τ:=σ) (vs:=[x,.int .i64 0,.int .i64 0]) (us:=[(AA BJ).enc toks,.int .i64 0,.int .i64 0]) (by rw [BM];omega) (by rw [List.mapM_cons,List.mapM_cons,List.mapM_cons,List.mapM_nil,bY (n:=62) (by omega) hL];rfl);exact ⟨.toks toks,⟨_,σ,e1,KW q1 q2⟩,hT,h1⟩
  ·exact ⟨.none e a,⟨_,σ,e1,.inr ⟨(by intro h;cases h),rfl⟩⟩,h1,h2,h3⟩
def Ij:B->Gp:=UC.choose
theorem Pc: ∀ s,True->(∃ v σ,t98 (AY env pu (AV L_26) (AX []) 1) 2000000 [.str s] .empty=some (v,σ)/\Bn env σ v (D9 (Ij s)))/\KD (Ij s):=UC.choose_spec
def S_98:Ac:=BS AC tV0 (λ_=>True) (λs=>⟨D9 (Ij s),UB _⟩)
theorem K_98:Ag env 98 S_98:=kc1 (lm:=L_26) (lt:=[]) Ar M_26 Au kJ λs _=>by
 obtain ⟨v,σ,e1,e2⟩:=(Pc s trivial).1;exact ⟨1,2000000,v,σ,e1,e2⟩
def L_27:LT:=(98,S_98) :: L_26
theorem M_27:MO L_27:=Ap K_98 M_26
def I5:List (FuncId×CK):=[(123,t123),(146,t146),(153,t153),(154,t154)]
theorem wH:Dy env pu (AX I5):=Dg fT (Dg gL (Dg gP (Dg gQ Au)))
theorem reads:Fj (AY env pu (AV L_27) (AX I5)) (λt n=>JG (t,n)) where
 level k vs σ:=DD (by kernel_rfl) (by kernel_rfl) (by kernel_rfl) rfl k vs σ
 unary k vs σ:=DD (by kernel_rfl) (by kernel_rfl) (by kernel_rfl) rfl k vs σ
 is k vs σ:=DD (by kernel_rfl) (by kernel_rfl) (by kernel_rfl) rfl k vs σ
 fail k vs σ:=DD (by kernel_rfl) (by kernel_rfl) (by kernel_rfl) rfl k vs σ
 binary k hk t lv τ:=AU.c2 (show AU env (AY env pu (AV L_27) (AX I5) k) 147 S_147 from Bj rfl hk) (x:=t) (y:=lv) trivial τ
 bop t lv:=by rcases (RV (t,lv) trivial).2 with h | h;exact .inl h;exact .inr h.2.2
theorem Vy: ∃ F:List BZ×Nat->Gs,∀ x:List BZ×Nat,(DM x.1/\x.2<x.1.length)->(∃ k v σ,t99 (AY env pu (AV L_27) (AX I5) k) k [(AA BJ).enc x.1,.int .i64 (x.2:Int)] .empty=some (v,σ)/\Bn env σ v (Ec (F x)))/\KG x.1 (F x) :=
 Eh (P:=λx:List BZ×Nat=>DM x.1/\x.2<x.1.length) (R:=λx r=>(∃ k v σ,t99 (AY env pu (AV L_27) (AX I5) k) k [(AA BJ).enc x.1,.int .i64 (x.2:Int)] .empty=some (v,σ)/\Bn env σ v (Ec r))/\KG x.1 r) λx h=>by
  obtain ⟨K,v,σ,e1,e2⟩:=vG reads h.1 x.2 h.2;rcases e2 with ⟨y,out,a',b,rfl,hL,h1,h2,h3⟩ | ⟨a',e,rfl,h1,h2⟩
  ·have hk:=Il hL;obtain ⟨q1,q2⟩:=QY (τ:=σ) (vs:=[y,.int .i64 (a':Int),.int .i64 0]) (us:=[(AA Al).enc out,.int .i64 (a':Int),.int .i64 0]) (by rw [BM];omega) (by rw [List.mapM_cons,List.mapM_cons,List.mapM_cons,List.mapM_nil,bX (n:=62) (by omega) hL];rfl);exact ⟨.terms out a',⟨K,_,σ,e1 K (Nat.le_refl _),KW q1 q2⟩,h1,h2,h3⟩
  ·exact ⟨.none a' e,⟨K,_,σ,e1 K (Nat.le_refl _),.inr ⟨(by intro h;cases h),rfl⟩⟩,h1,h2⟩
def Cc:List BZ×Nat->Gs:=Vy.choose
theorem QT: ∀ x:List BZ×Nat,(DM x.1/\x.2<x.1.length)->(∃ k v σ,t99 (AY env pu (AV L_27) (AX I5) k) k [(AA BJ).enc x.1,.int .i64 (x.2:Int)] .empty=some (v,σ)/\Bn env σ v (Ec (Cc x)))/\KG x.1 (Cc x):=Vy.choose_spec
def S_99:Ac:=Bt (AA BJ) AJ tV0 (λl a=>DM l/\0<=a/\a<l.length) (λl a=>⟨Ec (Cc (l,a.toNat)),Vx _⟩)
theorem K_99:Ag env 99 S_99:=kc2 (lm:=L_27) (lt:=I5) Ar M_27 wH kK λl a h=>by
 obtain ⟨h1,h2,h3⟩:=h;obtain ⟨a,rfl⟩: ∃ m:Nat,a=(m:Int):=⟨a.toNat,by omega⟩
 obtain ⟨k,v,σ,e1,e2⟩:=(QT (l,a) ⟨h1,by show a<l.length;omega⟩).1;exact ⟨k,k,v,σ,e1,e2⟩
def L_28:LT:=(99,S_99) :: L_27
theorem M_28:MO L_28:=Ap K_99 M_27
theorem RM {C:SS.Call} (h:AU env C 98 S_98) (s:B) (τ:St):C 98 [.str s] τ=some (D9 (Ij s),τ):=AU.c1 (a:=AC) (c:=tV0) (P:=λ_=>True) (g:=λs=>⟨D9 (Ij s),UB _⟩) h (x:=s) trivial τ
theorem RN {C:SS.Call} (h:AU env C 99 S_99) (l:List BZ) (a:Nat) (τ:St) (h1:DM l) (h2:a<l.length):C 99 [(AA BJ).enc l,.int .i64 (a:Int)] τ=some (Ec (Cc (l,a)),τ):=by
 have:=AU.c2 (a:=AA BJ) (b:=AJ) (c:=tV0) (P:=λl a=>DM l/\0<=a/\a<l.length) (g:=λl a=>⟨Ec (Cc (l,a.toNat)),Vx _⟩) h (x:=l) (y:=(a:Int)) ⟨h1,by omega,by omega⟩ τ;rw [Int.toNat_natCast] at this;exact this
theorem Uo: ∃ F:B->IE,∀ s,True->(∃ v σ,t70 (AY env pu (AV L_28) (AX []) 1) 2000000 [.str s] .empty=some (v,σ)/\Bn env σ v (Gi (F s)))/\LX (F s) :=
 Eh (P:=λ_:B=>True) (R:=λs r=>(∃ v σ,t70 (AY env pu (AV L_28) (AX []) 1) 2000000 [.str s] .empty=some (v,σ)/\Bn env σ v (Gi r))/\LX r) λs _=>by
  obtain ⟨v,e1,e2⟩:=pI (call:=AY env pu (AV L_28) (AX []) 1) (k:=2000000) Ij (λs=>(Pc s trivial).2) (λs τ=>RM (Bj rfl (Nat.le_refl 1)) s τ) (λl a=>Cc (l,a)) (λl a h1 h2=>(QT (l,a) ⟨h1,h2⟩).2) (λl a τ h1 h2=>RN (Bj rfl (Nat.le_refl 1)) l a τ h1 h2) s .empty;rcases e2 with ⟨l,rfl,h1,h2⟩ | ⟨e,a,rfl,h1⟩
  ·exact ⟨.terms l,⟨_,_,e1,.inl ⟨Ps (.terms l),rfl⟩⟩,h1,h2⟩
  ·exact ⟨.none e a,⟨_,_,e1,.inr ⟨(by intro h;cases h),rfl⟩⟩,h1⟩
def Kq:B->IE:=Uo.choose
theorem Un: ∀ s,True->(∃ v σ,t70 (AY env pu (AV L_28) (AX []) 1) 2000000 [.str s] .empty=some (v,σ)/\Bn env σ v (Gi (Kq s)))/\LX (Kq s):=Uo.choose_spec
def S_70:Ac:=BS AC tV0 (λ_=>True) (λs=>⟨Gi (Kq s),Ps _⟩)
theorem K_70:Ag env 70 S_70:=kc1 (lm:=L_28) (lt:=[]) Ar M_28 Au jS λs _=>by
 obtain ⟨v,σ,e1,e2⟩:=(Un s trivial).1;exact ⟨1,2000000,v,σ,e1,e2⟩
def L_29:LT:=(70,S_70) :: L_28
theorem M_29:MO L_29:=Ap K_70 M_28
theorem Sa: ∃ F:List B->IB,∀ l,l.length<1000000->(∃ v σ,t71 (AY env pu (AV L_29) (AX []) 1) 2000000 [(AA AC).enc l] .empty=some (v,σ)/\Bn env σ v (FX (F l)))/\LV (F l) :=
 Eh (P:=λl:List B=>l.length<1000000) (R:=λl r=>(∃ v σ,t71 (AY env pu (AV L_29) (AX []) 1) 2000000 [(AA AC).enc l] .empty=some (v,σ)/\Bn env σ v (FX r))/\LV r) λl hl=>by
  obtain ⟨v,σ,e1,e2⟩:=o6 (call:=AY env pu (AV L_29) (AX []) 1) (k:=2000000) Ij (λs=>(Pc s trivial).2) (λs τ=>RM (Bj rfl (Nat.le_refl 1)) s τ) (λl a=>Cc (l,a)) (λl a h1 h2=>(QT (l,a) ⟨h1,h2⟩).2) (λl a τ h1 h2=>RN (Bj rfl (Nat.le_refl 1)) l a τ h1 h2) l hl (by omega);rcases e2 with rfl | ⟨x,effs,b,rfl,hL,hX⟩
  ·exact ⟨.none,⟨_,_,e1,.inr ⟨(by intro h;cases h),rfl⟩⟩,trivial⟩
  ·have hk:=Il hL;obtain ⟨q1,q2⟩:=QY (τ:=σ) (vs:=[x,.bool true]) (us:=[(AA Bg).enc effs,.bool true]) (by rw [BM];omega) (by rw [List.mapM_cons,List.mapM_cons,List.mapM_nil,bU (n:=62) (by omega) hL];rfl);exact ⟨.effs effs,⟨_,σ,e1,KW q1 q2⟩,hX⟩
def KO:List B->IB:=Sa.choose
theorem SY: ∀ l,l.length<1000000->(∃ v σ,t71 (AY env pu (AV L_29) (AX []) 1) 2000000 [(AA AC).enc l] .empty=some (v,σ)/\Bn env σ v (FX (KO l)))/\LV (KO l):=Sa.choose_spec
def S_71:Ac:=BS (AA AC) tV0 (λl=>l.length<1000000) (λl=>⟨FX (KO l),SQ _⟩)
theorem K_71:Ag env 71 S_71:=kc1 (lm:=L_29) (lt:=[]) Ar M_29 Au jT λl h=>by
 obtain ⟨v,σ,e1,e2⟩:=(SY l h).1;exact ⟨1,2000000,v,σ,e1,e2⟩
def L_30:LT:=(71,S_71) :: L_29
theorem M_30:MO L_30:=Ap K_71 M_29
end
end Go.Proofs.YtglndmmlghpdpaaGreatDoor
namespace Go.Proofs.YtglndmmlghpdpaaGreatDoor
open Go SS
set_option maxRecDepth 100000
noncomputable section
def S_125:Ac:=Bt FY AJ AC (λx _=>x.s.length<1000000000) (λx n=>FD x.s x.lv n)
theorem K_125:Ag env 125 S_125:=kc2 (lm:=L_30) (lt:=[]) Ar M_30 Au fV λx n h=>by
 obtain ⟨σ,e⟩:=xE (AY env pu (AV L_30) (AX []) 1) 2000000 x.s x.lv n h;exact ⟨1,2000000,_,σ,e,BV (t:=AC)⟩
def L_31:LT:=(125,S_125) :: L_30
theorem M_31:MO L_31:=Ap K_125 M_30
def S_101:Ac:=BS (AA Al) AC Ci D7
theorem K_101:Ag env 101 S_101:=kc1 (lm:=L_31) (lt:=[]) Ar M_31 Au fE λl h=>by
 have hl:=h.1;obtain ⟨σ,e⟩:=qE (call:=AY env pu (AV L_31) (AX []) 1) (k:=2000000) ⟨λn τ=>AU.c1 (aq L_31 124 S_124 rfl) (x:=n) trivial τ,λn τ=>AU.c1 (aq L_31 103 S_103 rfl) (x:=n) trivial τ,λn τ h1 h2=>AU.c1 (aq L_31 66 S_66 rfl) (x:=n) ⟨h1,h2⟩ τ,λs lv n τ h=>AU.c2 (aq L_31 125 S_125 rfl) (x:=⟨s,lv⟩) (y:=n) h τ⟩ (λl τ h=>AU.c1 (aq L_31 77 S_77 rfl) (x:=l) h τ) l h (by omega);exact ⟨1,2000000,_,σ,e,BV (t:=AC)⟩
def L_32:LT:=(101,S_101) :: L_31
theorem M_32:MO L_32:=Ap K_101 M_31
def S_102:Ac:=BS (AA Bg) AC GQ (EH D7)
theorem K_102:Ag env 102 S_102:=kc1 (lm:=L_32) (lt:=[]) Ar M_32 Au fF λl h=>by
 have hl:=h.1;have e:=qA (call:=AY env pu (AV L_32) (AX []) 1) (k:=2000000) D7 (λl τ h=>AU.c1 (aq L_32 101 S_101 rfl) (x:=l) h τ) Uw l h (by omega) .empty;exact ⟨1,2000000,_,_,e,BV (t:=AC)⟩
def L_33:LT:=(102,S_102) :: L_32
theorem M_33:MO L_33:=Ap K_102 M_32
def S_72:Ac:=BS BF AC Dl (λt=>if I4 t then K9 D7 t else [])
theorem K_72:Ag env 72 S_72:=kc1 (lm:=L_33) (lt:=[]) Ar M_33 Au jU λt h=>by
 obtain ⟨σ,e⟩:=qC (call:=AY env pu (AV L_33) (AX []) 1) (k:=2000000) D7 (λl τ h=>AU.c1 (aq L_33 101 S_101 rfl) (x:=l) h τ) Uw (λs τ h=>AU.c1 (aq L_33 29 S_29 rfl) (x:=s) h τ) (λs τ h=>AU.c1 (aq L_33 56 S_56 rfl) (x:=s) h τ) (λc τ=>AU.c1 (aq L_33 57 S_57 rfl) (x:=c) trivial τ) (λl τ h=>AU.c1 (aq L_33 77 S_77 rfl) (x:=l) h τ) (λl τ h=>AU.c1 (aq L_33 100 S_100 rfl) (x:=l) h τ) (λn τ h1 h2=>AU.c1 (aq L_33 66 S_66 rfl) (x:=n) ⟨h1,h2⟩ τ) (λl τ h=>AU.c1 (aq L_33 102 S_102 rfl) (x:=l) h τ) (λn h1 h2=>by have:=IW n (by omega) h2;omega) t h;exact ⟨1,2000000,_,σ,e,BV (t:=AC)⟩
def L_34:LT:=(72,S_72) :: L_33
theorem M_34:MO L_34:=Ap K_72 M_33
theorem YX (s:B):amount s false=CG s:=by
 unfold amount
 split<;>simp
theorem Vt (l:List B):V.kind.kinds [V.lst (l.map V.str) false]<=1:=(O7 l .empty).2
theorem U0: ∃ F:B->Br×Bool,∀ s,s.length<900000->(∃ v σ,t49 (AY env pu (AV L_34) (AX []) 1) 2000000 [.str s] .empty=some (v,σ)/\Bn env σ v ((DV BF BB).enc (F s)))/\Dl (F s).1 :=
 Eh (P:=λs:B=>s.length<900000) (R:=λs r=>(∃ v σ,t49 (AY env pu (AV L_34) (AX []) 1) 2000000 [.str s] .empty=some (v,σ)/\Bn env σ v ((DV BF BB).enc r))/\Dl r.1) λs hs=>by
  have hP:AU env (AY env pu (AV L_34) (AX []) 1) 70 S_70:=Bj rfl (Nat.le_refl 1);have hE:AU env (AY env pu (AV L_34) (AX []) 1) 71 S_71:=Bj rfl (Nat.le_refl 1);have hS:AU env (AY env pu (AV L_34) (AX []) 1) 50 S_50:=Bj rfl (Nat.le_refl 1);have hA:AU env (AY env pu (AV L_34) (AX []) 1) 37 S_37:=Bj rfl (Nat.le_refl 1);have hW:AU env (AY env pu (AV L_34) (AX []) 1) 47 S_47:=Bj rfl (Nat.le_refl 1);have hC:AU env (AY env pu (AV L_34) (AX []) 1) 56 S_56:=Bj rfl (Nat.le_refl 1);have hT:AU env (AY env pu (AV L_34) (AX []) 1) 72 S_72:=Bj rfl (Nat.le_refl 1)
  obtain ⟨v,σ,e1,e2⟩:=o8 (call:=AY env pu (AV L_34) (AX []) 1) (k:=2000000) (λs τ h=>AU.c1 hW (x:=s) h τ) (λs τ h=>by have:=AU.c2 hA (x:=s) (y:=false) (show s.length<1900000 by omega) τ;rw [YX] at this;exact this)
   (λs τ h=>AU.c1 hC (x:=s) h τ) (λs n τ h1 h2=>by have:=AU.c2 hS (x:=s) (y:=(n:Int)) ⟨h1,by omega,by omega⟩ τ;exact this) (λs c τ h=>OT (Bj rfl (Nat.le_refl 1)) s c τ (by omega))
   Kq (λs=>(Un s trivial).2) (λs τ=>AU.c1 (a:=AC) (c:=tV0) (P:=λ_=>True) (g:=λs=>⟨Gi (Kq s),Ps _⟩) hP (x:=s) trivial τ)
   (λl=>if l.length<1000000 then KO l else .none) (λl=>by split;exact (SY l (by assumption)).2;trivial) (λl τ h=>by
     rw [if_pos h];exact AU.f1 (a:=AA AC) (c:=tV0) (P:=λl=>l.length<1000000) (g:=λl=>⟨FX (KO l),SQ _⟩) hE (x:=l) h (O7 l τ).1 (.inl (Vt l)))
   (λt=>if I4 t then K9 D7 t else []) (λa b c d e g f τ h=>AU.c1 hT (x:=⟨a,b,c,d,e,g,f⟩) h τ) s hs
  rcases e2 with rfl | ⟨t,rfl,hT⟩
  ·exact ⟨(⟨0,[],[],[],[],[],[]⟩,false),⟨_,σ,e1,.inr ⟨(by intro h;cases h),rfl⟩⟩,by decide,by decide,by decide,by decide,⟨by decide,by simp⟩,by decide,by simp⟩
  ·exact ⟨(t,true),⟨_,σ,e1,BV (t:=DV BF BB) (x:=(t,true))⟩,hT⟩
def ptF:B->Br×Bool:=U0.choose
theorem Uz: ∀ s,s.length<900000->(∃ v σ,t49 (AY env pu (AV L_34) (AX []) 1) 2000000 [.str s] .empty=some (v,σ)/\Bn env σ v ((DV BF BB).enc (ptF s)))/\Dl (ptF s).1:=U0.choose_spec
def S_49:Ac:=BS AC (DV BF BB) (λs=>s.length<900000) ptF
theorem K_49:Ag env 49 S_49:=kc1 (lm:=L_34) (lt:=[]) Ar M_34 Au iZ λs h=>by
 obtain ⟨v,σ,e1,e2⟩:=(Uz s h).1;exact ⟨1,2000000,v,σ,e1,e2⟩
def L_35:LT:=(49,S_49) :: L_34
theorem M_35:MO L_35:=Ap K_49 M_34
def Ni (s:B) (r:AQ×Int×Int):Prop:=Ae r.1/\(r.1.right=true->∀ p∈r.1.procs,∃ L∈cut 10 s,BI L=[112,114,111,99] :: p.name :: p.locs)/\(r.1.right=true\/r.1=⟨[],[],[]⟩)
theorem Uv: ∃ F:B->AQ×Int×Int,∀ s,True->(∃ v σ,t27 (AY env pu (AV L_35) (AX []) 1) 2000000 [.str s] .empty=some (v,σ)/\Bn env σ v ((K8 AP AJ AJ).enc (F s)))/\Ni s (F s) :=
 Eh (P:=λ_:B=>True) (R:=λs r=>(∃ v σ,t27 (AY env pu (AV L_35) (AX []) 1) 2000000 [.str s] .empty=some (v,σ)/\Bn env σ v ((K8 AP AJ AJ).enc r))/\Ni s r) λs _=>by
  have hS:AU env (AY env pu (AV L_35) (AX []) 1) 50 S_50:=Bj rfl (Nat.le_refl 1);have hW:AU env (AY env pu (AV L_35) (AX []) 1) 47 S_47:=Bj rfl (Nat.le_refl 1);have hV:AU env (AY env pu (AV L_35) (AX []) 1) 48 S_48:=Bj rfl (Nat.le_refl 1);have hT:AU env (AY env pu (AV L_35) (AX []) 1) 49 S_49:=Bj rfl (Nat.le_refl 1);have hM:AU env (AY env pu (AV L_35) (AX []) 1) 8 S_8:=Bj rfl (Nat.le_refl 1)
  obtain ⟨v,σ,e1,e2⟩:=o7 (call:=AY env pu (AV L_35) (AX []) 1) (k:=2000000) (pt:=ptF)
   ⟨λs τ h=>AU.c1 hW (x:=s) h τ,λl τ h1 h2=>AU.f1 hV (x:=l) ⟨h1,h2⟩ (O7 l τ).1 (.inl (Vt l)),λs n τ h1 h2=>by have:=AU.c2 hS (x:=s) (y:=(n:Int)) ⟨h1,by omega,by omega⟩ τ;exact this,λs τ h=>AU.c1 hT (x:=s) h τ,λs h=>(Uz s h).2⟩
   (λs c τ h=>OT (Bj rfl (Nat.le_refl 1)) s c τ (by omega)) (λv m τ hm hv=>AU.f1 hM (x:=m) hm hv (.inr rfl)) s (by omega)
  rcases e2 with ⟨e,a,rfl,he⟩ | ⟨m,h1,h2,h3,h4,h5⟩
  ·exact ⟨(⟨[],[],[]⟩,e,a),⟨_,σ,e1,.inr ⟨(by intro h;cases h),rfl⟩⟩,⟨by show 0<1000000;omega,λv hv=>(by simp at hv),by show 0<1000000;omega,λv hv=>(by simp at hv),by show 0<1000000;omega,λv hv=>(by simp at hv)⟩,λh=>(by simp [AQ.right] at h),.inr rfl⟩
  ·exact ⟨(m,0,0),⟨_,σ,e1,KW h1 h2⟩,h4,λ_=>h5,.inl h3⟩
def pmF:B->AQ×Int×Int:=Uv.choose
theorem P0: ∀ s,True->(∃ v σ,t27 (AY env pu (AV L_35) (AX []) 1) 2000000 [.str s] .empty=some (v,σ)/\Bn env σ v ((K8 AP AJ AJ).enc (pmF s)))/\Ni s (pmF s):=Uv.choose_spec
def S_27:Ac:=BS AC (K8 AP AJ AJ) (λ_=>True) pmF
theorem K_27:Ag env 27 S_27:=kc1 (lm:=L_35) (lt:=[]) Ar M_35 Au iD λs _=>by
 obtain ⟨v,σ,e1,e2⟩:=(P0 s trivial).1;exact ⟨1,2000000,v,σ,e1,e2⟩
def L_36:LT:=(27,S_27) :: L_35
theorem M_36:MO L_36:=Ap K_27 M_35
end
end Go.Proofs.YtglndmmlghpdpaaGreatDoor
namespace Go.Proofs.YtglndmmlghpdpaaGreatDoor
open Go SS
set_option maxRecDepth 100000
noncomputable section
def S_33:Ac:=Bt AJ AJ AJ (λ_ m=>0<m/\m<1000000000) CF
theorem K_33:Ag env 33 S_33:=kc2 (lm:=L_36) (lt:=[]) Ar M_36 Au iJ λn m h=>by
 have e:=pO (AY env pu (AV L_36) (AX []) 1) 2000000 n m h.1 h.2 .empty;exact ⟨1,2000000,_,_,e,BV (t:=AJ)⟩
def L_37:LT:=(33,S_33) :: L_36
theorem M_37:MO L_37:=Ap K_33 M_36
def S_51:Ac:=BS AJ AC (λn=>0<=n/\n<=999) BK
theorem K_51:Ag env 51 S_51:=kc1 (lm:=L_37) (lt:=[]) Ar M_37 Au jB λn h=>by
 have e:=Zu (AY env pu (AV L_37) (AX []) 1) 2000000 n .empty _ (AU.c1 (aq L_37 66 S_66 rfl) (x:=n) ⟨by omega,by omega⟩ .empty);exact ⟨1,2000000,_,_,e,BV (t:=AC)⟩
def L_38:LT:=(51,S_51) :: L_37
theorem M_38:MO L_38:=Ap K_51 M_37
def Qa:List (FuncId×CK):=[(73,t73),(74,t74),(76,t76),(75,t75)]
theorem wG:Dy env pu (AX Qa):=Dg jV (Dg jW (Dg jY (Dg jX Au)))
def Cf (k:Nat):SS.Call:=AY env pu (AV L_38) (AX Qa) (k+1)
theorem aU (l:List Int):LW Cf l:=by
 have tn: ∀ k vs σ,Cf (k+1) 73 vs σ=t73 (Cf k) (k+1) vs σ:=λk vs σ=>DD (by kernel_rfl) (by kernel_rfl) (by kernel_rfl) rfl (k+1) vs σ
 have tg: ∀ k vs σ,Cf (k+1) 74 vs σ=t74 (Cf k) k vs σ:=λk vs σ=>(DD (by kernel_rfl) (by kernel_rfl) (by kernel_rfl) rfl (k+1) vs σ).trans rfl
 have ts: ∀ k vs σ,Cf (k+1) 76 vs σ=t76 (Cf k) k vs σ:=λk vs σ=>(DD (by kernel_rfl) (by kernel_rfl) (by kernel_rfl) rfl (k+1) vs σ).trans rfl
 have te: ∀ k vs σ,Cf (k+1) 75 vs σ=t75 (Cf k) k vs σ:=λk vs σ=>(DD (by kernel_rfl) (by kernel_rfl) (by kernel_rfl) rfl (k+1) vs σ).trans rfl
 have hp: ∀ k (n m:Int) τ,0<m->m<1000000000->Cf k 33 [.int .i64 n,.int .i64 m] τ=some (.int .i64 (CF n m),τ):=λk n m τ h1 h2=>AU.c2 (show AU env (Cf k) 33 S_33 from Bj rfl (Nat.succ_le_succ (Nat.zero_le k))) (x:=n) (y:=m) ⟨h1,h2⟩ τ
 have nx: ∀ (a:Nat) (m:Int) τ,a<1000000->0<m->m<1000->Fd τ 0 l a->∃ (r:Int) (σ:St) (a':Nat),(∀ k,1<=k->Cf k 73 [.ptr 0 0 0,.int .i64 m] τ=some (.int .i64 r,σ))/\0<=r/\r<m/\Fed τ σ 0 l a a'/\a'<=a+1:=λa m τ ha hm hb hq=>by
  obtain ⟨r,σ,a',h1,h2⟩:=nS l a 0 (by omega) m hm (by omega) τ hq;refine ⟨r,σ,a',λk hk=>?_,h2⟩;obtain ⟨k,rfl⟩: ∃ k',k=k'+1:=⟨k - 1,by omega⟩
  rw [tn];exact h1 _ _ (hp k)
 refine ⟨nx,λa τ ha hq=>?_,λa τ ha hq=>?_,λa τ ha hq=>?_⟩
 ·obtain ⟨s,σ,a',h1,h2⟩:=dJ nx a ha τ hq;refine ⟨s,σ,a',λk hk=>?_,h2⟩;obtain ⟨k,rfl⟩: ∃ k',k=k'+1:=⟨k - 1,by omega⟩
  rw [tg];exact h1 k (by omega)
 ·obtain ⟨s,σ,a',h1,h2⟩:=tJ nx a ha τ hq;refine ⟨s,σ,a',λk hk=>?_,h2⟩;obtain ⟨k,rfl⟩: ∃ k',k=k'+1:=⟨k - 1,by omega⟩
  rw [ts];exact h1 k (by omega)
 ·obtain ⟨K,s,σ,a',h1,h2,h3,h4,h5⟩:=aP te nx 2 2 rfl a τ (by omega) hq;have b1:=RP 2 (by omega);have b2:=RQ 2 (by omega);exact ⟨K,s,σ,a',h1,h2,by omega,h4,by omega⟩
theorem V6: ∃ F:List Int×Int->B,∀ x:List Int×Int,(0<x.2/\x.2<=3)->(∃ k σ,t52 (Cf k) k [(AA AJ).enc x.1,.int .i64 x.2] .empty=some (.str (F x),σ))/\Bh (F x)/\(F x).length<=2000 :=
 Eh (P:=λx:List Int×Int=>0<x.2/\x.2<=3) (R:=λx s=>(∃ k σ,t52 (Cf k) k [(AA AJ).enc x.1,.int .i64 x.2] .empty=some (.str s,σ))/\Bh s/\s.length<=2000) λx h=>by
  obtain ⟨k,s,σ,e1,e2,e3⟩:=vY (aU x.1) x.2 h.1 h.2;exact ⟨s,⟨k,σ,e1⟩,e2,e3⟩
def trF:List Int×Int->B:=V6.choose
theorem V5: ∀ x:List Int×Int,(0<x.2/\x.2<=3)->(∃ k σ,t52 (Cf k) k [(AA AJ).enc x.1,.int .i64 x.2] .empty=some (.str (trF x),σ))/\Bh (trF x)/\(trF x).length<=2000:=V6.choose_spec
def S_52:Ac:=Bt (AA AJ) AJ AC (λ_ n=>0<n/\n<=3) (λl n=>trF (l,n))
theorem K_52:Ag env 52 S_52:=kc2 (lm:=L_38) (lt:=Qa) Ar M_38 wG jC λl n h=>by
 obtain ⟨k,σ,e⟩:=(V5 (l,n) h).1;exact ⟨k+1,k,_,σ,e,BV (t:=AC)⟩
def L_39:LT:=(52,S_52) :: L_38
theorem M_39:MO L_39:=Ap K_52 M_38
theorem WD: ∃ F:Raw->B,∀ x:Raw,True->(∃ σ,t28 (AY env pu (AV L_39) (AX []) 1) 2000000 [EP.enc x] .empty=some (.str (F x),σ))/\DB (F x) 16 :=
 Eh (P:=λ_:Raw=>True) (R:=λx s=>(∃ σ,t28 (AY env pu (AV L_39) (AX []) 1) 2000000 [EP.enc x] .empty=some (.str s,σ))/\DB s 16) λx _=>by
  have hP:AU env (AY env pu (AV L_39) (AX []) 1) 33 S_33:=Bj rfl (Nat.le_refl 1);have hD:AU env (AY env pu (AV L_39) (AX []) 1) 51 S_51:=Bj rfl (Nat.le_refl 1);have hT:AU env (AY env pu (AV L_39) (AX []) 1) 52 S_52:=Bj rfl (Nat.le_refl 1);obtain ⟨s,σ,e1,e2⟩:=vO (call:=AY env pu (AV L_39) (AX []) 1) (k:=2000000) (tr:=λl n=>trF (l,n)) ⟨λn m τ h1 h2=>AU.c2 hP (x:=n) (y:=m) ⟨h1,h2⟩ τ,λn τ h1 h2=>AU.c1 hD (x:=n) ⟨h1,h2⟩ τ,λl n τ h1 h2=>AU.c2 hT (x:=l) (y:=n) ⟨h1,h2⟩ τ,λl n h1 h2=>(V5 (l,n) ⟨h1,h2⟩).2⟩ (by omega) x;exact ⟨s,⟨σ,e1⟩,e2⟩
def txF:Raw->B:=WD.choose
theorem wE: ∀ x:Raw,True->(∃ σ,t28 (AY env pu (AV L_39) (AX []) 1) 2000000 [EP.enc x] .empty=some (.str (txF x),σ))/\DB (txF x) 16:=WD.choose_spec
def S_28:Ac:=BS EP AC (λ_=>True) txF
theorem K_28:Ag env 28 S_28:=kc1 (lm:=L_39) (lt:=[]) Ar M_39 Au iE λx _=>by
 obtain ⟨σ,e⟩:=(wE x trivial).1;exact ⟨1,2000000,_,σ,e,BV (t:=AC)⟩
def L_40:LT:=(28,S_28) :: L_39
theorem M_40:MO L_40:=Ap K_28 M_39
def mkF (x:Raw):AQ:=(pmF (txF x)).1
def S_7:Ac:=BS EP AP (λ_=>True) mkF
theorem K_7:Ag env 7 S_7:=kc1 (lm:=L_40) (lt:=[]) Ar M_40 Au jR λx _=>by
 obtain ⟨σ,e⟩:=nN (call:=AY env pu (AV L_40) (AX []) 1) (k:=2000000) txF (λx τ=>AU.c1 (aq L_40 28 S_28 rfl) (x:=x) trivial τ) pmF (λx τ=>AU.c1 (aq L_40 27 S_27 rfl) (x:=txF x) trivial τ) x;exact ⟨1,2000000,_,σ,e,BV (t:=AP)⟩
def L_41:LT:=(7,S_7) :: L_40
theorem M_41:MO L_41:=Ap K_7 M_40
theorem TZ: ∃ F:AQ×Int->BG,∀ x:AQ×Int,(Ae x.1/\x.1.right=true)->(∃ v σ,t9 (AY env pu (AV L_41) (AX []) 1) 2000000 [AP.enc x.1,.int .i64 x.2] .empty=some (v,σ)/\Bn env σ v (Af.enc (F x)))/\x.1.fits (F x)=true :=
 Eh (P:=λx:AQ×Int=>Ae x.1/\x.1.right=true) (R:=λx s=>(∃ v σ,t9 (AY env pu (AV L_41) (AX []) 1) 2000000 [AP.enc x.1,.int .i64 x.2] .empty=some (v,σ)/\Bn env σ v (Af.enc s))/\x.1.fits s=true) λx h=>by
  have hP:AU env (AY env pu (AV L_41) (AX []) 1) 33 S_33:=Bj rfl (Nat.le_refl 1);obtain ⟨r1,r2,_⟩:=Gg h.2;have l1:=h.1.procs;have l2:=h.1.vars;obtain ⟨v,σ,s,e1,e2,e3,e4⟩:=dK (call:=AY env pu (AV L_41) (AX []) 1) (k:=2000000) (λn m τ h1 h2=>AU.c2 hP (x:=n) (y:=m) ⟨h1,h2⟩ τ) x.1 x.2 h.1 (λp hp=>(r2 p hp).2.1) (λv hv=>⟨(r1 v hv).2.1,Int.le_trans (r1 v hv).2.2.1 (r1 v hv).2.2.2.1,(r1 v hv).2.2.2.2⟩) (by omega) (by omega);exact ⟨s,⟨v,σ,e1,KW e2 e3⟩,e4⟩
def hsF:AQ×Int->BG:=TZ.choose
theorem dQ: ∀ x:AQ×Int,(Ae x.1/\x.1.right=true)->(∃ v σ,t9 (AY env pu (AV L_41) (AX []) 1) 2000000 [AP.enc x.1,.int .i64 x.2] .empty=some (v,σ)/\Bn env σ v (Af.enc (hsF x)))/\x.1.fits (hsF x)=true:=TZ.choose_spec
def S_9:Ac:=Bt AP AJ Af (λm _=>Ae m/\m.right=true) (λm n=>hsF (m,n))
theorem K_9:Ag env 9 S_9:=kc2 (lm:=L_41) (lt:=[]) Ar M_41 Au kE λm n h=>by
 obtain ⟨v,σ,e1,e2⟩:=(dQ (m,n) h).1;exact ⟨1,2000000,v,σ,e1,e2⟩
def L_42:LT:=(9,S_9) :: L_41
theorem M_42:MO L_42:=Ap K_9 M_41
end
end Go.Proofs.YtglndmmlghpdpaaGreatDoor
namespace Go.Proofs.YtglndmmlghpdpaaGreatDoor
open Go Go.Proofs Go.Shelf Go.RowKit
set_option maxRecDepth 100000
def VC:Go.Shelf.Ren:={ f:=λx=>match x with | 156=>35 | 165=>61 | 166=>62 | 169=>63 | 240=>79 | 241=>80 | 276=>108 | 277=>109 | n=>n,t:=λx=>match x with | 31=>37 | 9=>9 | 3=>3 | 4=>4 | 0=>0 | 20=>20 | 72=>104 | 76=>81 | 70=>101 | 37=>102 | 75=>80 | 127=>125 | 164=>157 | 5=>5 | 80=>106 | n=>n,g:=λx=>have n:=x;n }
theorem Tx:Lays.n156 Tryz.prog VC:=by repeat' first | kernel_rfl | constructor | intro _
theorem Sw:Builder.Extra Tryz.prog VC where
 sizeBuilder:=by kernel_rfl
 liesBuilder:=by kernel_rfl
 t5:=Tryz.underlying5
 a5:=Tryz.isAgg5
 z5:=Tryz.sizeOf5
 v5:=Tryz.zeroValue5
 infoByte:=by kernel_rfl
 cellsByte:=by kernel_rfl
 sizeByte:=by kernel_rfl
 neB5:=by decide
def rC:Go.Shelf.Ren:={ f:=λx=>match x with | 171=>34 | 243=>60 | 246=>78 | 283=>104 | 284=>105 | 285=>106 | 286=>107 | 129=>127 | 317=>126 | 318=>128 | 319=>129 | 320=>130 | 337=>148 | 338=>149 | n=>n,t:=λx=>match x with | 3=>3 | 9=>9 | 2=>2 | 4=>4 | 171=>152 | 0=>0 | 53=>131 | 37=>102 | 5=>5 | 173=>155 | 212=>183 | 51=>184 | 20=>20 | 213=>185 | 46=>170 | 232=>203 | 233=>204 | n=>n,g:=λx=>match x with | 17=>5 | 18=>9 | 19=>10 | n=>n }
theorem l6:LaysM.n171 Tryz.prog rC:=by repeat' first | kernel_rfl | constructor | intro _
theorem Uu (n:Nat):SS.Bp n=Lib.decDigits n:=by
 induction n using Nat.strongRecOn with
 | _ n ih =>
  unfold SS.Bp;rw [Lib.decDigits];by_cases h:n<10
  ·rw [if_pos h,dif_pos h]
  ·rw [if_neg h,dif_neg h,ih (n / 10) (by omega)]
theorem Zr (n:Int):SS.BK n=Lib.itoa n:=by
 unfold SS.BK Lib.itoa;by_cases h:n<0
 ·rw [if_pos h,if_pos h,Uu,show (-n).toNat=n.natAbs by omega]
 ·rw [if_neg h,if_neg h,Uu]
theorem kU (l:List SS.B) (sep:SS.B):Lib.join l sep=SS.C9 sep l:=by
 induction l with
 | nil=>rfl
 | cons a r ih =>
  cases r with
  | nil=>exact Lib.join_one a sep
  | cons b r =>
   show Lib.join (a :: b :: r) sep=a++sep++SS.C9 sep (b :: r);rw [<-ih,Lib.join_cons,Lib.join_cons];simp [Lib.joinTail]
theorem vD {w:World} (h:SS.GOk env (SS.C6 w)):Lib.TabIs Tryz.prog w "internal/strconv.uint64pow10" .u64 Lib.pow10Tab:=by
 have hg:env.G 5=some (Lib.pow10Tab.map (SS.V.int .u64)):=by kernel_rfl
 obtain ⟨cs,t,fr,h1,h2⟩:=h.1 5 _ hg;have h2:=h2 SS.Cg;have key: ∀ (l:List Int) (l':List Value),SS.VRL SS.Cg (SS.C6 w) (l.map (SS.V.int .u64)) l'->l'=l.map λz=>Value.int .u64 z:=by
  intro l
  induction l with
  | nil=>intro l' h;cases h;rfl
  | cons a l ih =>
   intro l' h;cases h with
   | cons _ _ _ l2 h3 h4 =>
    cases h3;rw [List.map_cons,<-ih l2 h4]
 have h3:=key _ _ h2;unfold Lib.TabIs World.var?;have hn:Tryz.prog.globalNamed "internal/strconv.uint64pow10" = some 5:=by kernel_rfl
 rw [hn];have h1:w.heap[5]? = some (.cells cs t fr):=h1;simp only [Option.bind_some,h1];rw [<-h3]
theorem lC:SS.Ag env 34 (SS.BS SS.AJ SS.AC (λn=>-999<=n/\n<=999) SS.BK):=by
 refine SS.MI (c:=SS.Gu Tryz.f34) Tryz.func34 (by kernel_rfl) (by kernel_rfl) λws u hg=>?_
 obtain ⟨x,y,h1,rfl,rfl⟩:=SS.Mx hg;obtain ⟨⟨p1,p2⟩,rfl⟩:=SS.Ir h1;refine ⟨rfl,λw vs' hgo hv=>?_⟩;cases hv with
 | cons _ v' _ _ h2 h3 =>
  cases h2;cases h3;refine (Any.strconv_Itoa l6 x (by omega) (by omega) w (vD hgo)).mono λe w' he=>?_
  obtain ⟨rfl,k,os,rfl⟩:=he;refine ⟨_,rfl,?_,?_⟩
  ·rw [<-Zr];exact .str _
  ·exact Lib.below_grow _ w (Nat.le_refl _) k os
theorem VI {M:SS.Mem}: ∀ (l:List SS.B) (r:List Value),SS.Bz SS.Cg M 1 (l.map SS.V.str) r->∀ (j:Nat) (x:ByteArray),(l.map λs=>(⟨s.toArray⟩:ByteArray))[j]? = some x->r[j]? = some (Value.string x)
 | [],r,_,j,x,h=>by simp at h
 | s :: l,r,hr,j,x,h=>by
  cases hr with
  | cons _ _ _ cs r2 h1 h2 h3 =>
   have h1:SS.VRL SS.Cg M [SS.V.str s] cs:=h1;cases h1 with
   | cons _ v' _ cs' g1 g2 =>
    cases g1;cases g2;cases j with
    | zero =>
     simp only [List.map_cons,List.getElem?_cons_zero,Option.some.injEq] at h;subst h;rfl
    | succ j =>
     simp only [List.map_cons,List.getElem?_cons_succ] at h;have:=VI l r2 h3 j x h;simpa using this
theorem lD:SS.Ag env 35 (SS.Bt (SS.AA SS.AC) SS.AC SS.AC (λl sep=>l.length<=7/\(∀ s∈l,s.length<=8)/\sep=[32]) (λl _=>SS.C9 [32] l)):=by
 refine SS.MI (c:=SS.Gu Tryz.f35) Tryz.func35 (by kernel_rfl) (by kernel_rfl) λws u hg=>?_
 obtain ⟨l,sep,z,h1,rfl,rfl⟩:=SS.Vj hg;obtain ⟨⟨p1,p2,p3⟩,rfl⟩:=SS.Ir h1;have p3:sep=[32]:=p3;subst p3;refine ⟨rfl,λw vs' hgo hv=>?_⟩;cases hv with
 | cons _ v' _ vs2 h2 h3 =>
  cases h3 with
  | cons _ v2 _ vs3 h4 h5 =>
   cases h4;cases h5
   match l,p1,p2,h2 with
   | [],_,_,h2 =>
    have h2:SS.VR SS.Cg (SS.C6 w) .emp v':=h2;cases h2 with
    | emp a cap _ =>
     refine (Any.strings_Join_none Tx Sw a cap _ w).mono λe w' he=>?_
     obtain ⟨rfl,rfl⟩:=he;exact ⟨_,rfl,.str _,Below.refl _ _⟩
   | s :: r,p1,p2,h2 =>
    have h2:SS.VR SS.Cg (SS.C6 w) (.lst ((s :: r).map SS.V.str) false) v':=h2;cases h2 with
    | lst _ _ _ b o cap cs t fr g1 g2 g3 g4 =>
     have g1:w.heap[b]? = some (.cells cs t fr):=g1;have hlen:(r.map SS.V.str).length+1=((s :: r).map λs=>(⟨s.toArray⟩:ByteArray)).length:=by simp
     have hrow:=VI (s :: r) _ g2;have hmap:((s :: r).map λs=>(⟨s.toArray⟩:ByteArray)).map (·.data.toList)=s :: r:=by
      rw [List.map_map];have:((λx:ByteArray=>x.data.toList)∘λs:SS.B=>(⟨s.toArray⟩:ByteArray))=id:=by funext x;rfl
      rw [this,List.map_id]
     have hj:Lib.join (((s :: r).map λs=>(⟨s.toArray⟩:ByteArray)).map (·.data.toList)) (⟨[32].toArray⟩:ByteArray).data.toList=SS.C9 [32] (s :: r):=by
      rw [hmap];exact kU _ _
     have hjl:(SS.C9 [32] (s :: r)).length<=1000:=by
      have jl: ∀ l:List SS.B,(∀ a∈l,a.length<=8)->(SS.C9 [32] l).length<=l.length*9:=by
       intro l
       induction l with
       | nil=>intro _;simp [SS.C9]
       | cons a q ih =>
        intro h;have i1:=h a (by simp);have i2:=ih λx hx=>h x (by simp [hx])
        cases q with
        | nil=>show a.length<=_;simp;omega
        | cons b q =>
         show (a++[32]++SS.C9 [32] (b :: q)).length<=_;have e1:(a :: b :: q).length*9=(b :: q).length*9+9:=by rw [List.length_cons (a:=a),Nat.add_mul]
         have e2:([32]:SS.B).length=1:=rfl;rw [List.length_append,List.length_append,e1,e2];omega
      have:=jl (s :: r) p2;have p1:(s :: r).length<=7:=p1;omega
     rw [hlen];refine (Any.strings_Join Tx Sw b o cap _ _ w (λj x hx=>?_) (Array.getElem?_eq_some_iff.1 g1).1 ?_ ?_ ?_).mono λe w' he=>?_
     ·have:=hrow j x hx;rw [List.getElem?_drop] at this;unfold World.cell?;simp only [g1];simpa using this
     ·have p1:(s :: r).length<=7:=p1;rw [List.length_map];omega
     ·rw [<-hlen];exact g3
     ·rw [hj];omega
     ·obtain ⟨rfl,hb⟩:=he;refine ⟨_,rfl,?_,hb⟩;rw [hj];exact .str _
end Go.Proofs.YtglndmmlghpdpaaGreatDoor
namespace Go.Proofs.YtglndmmlghpdpaaGreatDoor
open Go SS
set_option maxRecDepth 100000
noncomputable section
def S_136:Ac:=BS tU8 BB (λ_=>True) SS.CY
theorem K_136:Ag env 136 S_136:=kc1 (lm:=L_42) (lt:=[]) Ar M_42 Au gH λc _=>C8 (k:=1) (k':=1) ⟨_,Yv c _⟩
def L_43:LT:=(136,S_136) :: L_42
theorem M_43:MO L_43:=Ap K_136 M_42
def S_150:Ac:=BS tU8 BB (λ_=>True) SS.B6
theorem K_150:Ag env 150 S_150:=kc1 (lm:=L_43) (lt:=[]) Ar M_43 Au gO λc _=>C8 (k:=1) (k':=1) ⟨_,Zy c _⟩
def L_44:LT:=(150,S_150) :: L_43
theorem M_44:MO L_44:=Ap K_150 M_43
def S_138:Ac:=BS tU8 BB (λ_=>True) EA
theorem K_138:Ag env 138 S_138:=kc1 (lm:=L_44) (lt:=[]) Ar M_44 Au gJ λc _=>C8 (k:=1) (k':=1) ⟨_,xC (λc τ=>AU.c1 (aq L_44 136 S_136 rfl) (x:=c) trivial τ) (λc τ=>AU.c1 (aq L_44 150 S_150 rfl) (x:=c) trivial τ) c _⟩
def L_45:LT:=(138,S_138) :: L_44
theorem M_45:MO L_45:=Ap K_138 M_44
theorem wI:Dy env pu (AX [(137,t137)]):=Dg gI Au
theorem sD (k:Nat) (hk:2000000<k) (s:B) (τ:St) (hs:s.length<1000000):AY env pu (AV L_45) (AX [(137,t137)]) (k+1) 137 [.str s,.fn 138 []] τ=some (.str (s.takeWhile λc=>EA (by8 c)),τ):=by
 rw [DD (t:=t137) (by kernel_rfl) (by kernel_rfl) (by kernel_rfl) rfl];exact sF (λc τ=>AU.c1 (show AU env (AY env pu (AV L_45) (AX [(137,t137)]) k) 138 S_138 from Bj rfl (by omega)) (x:=c) trivial τ) s hs (by omega) τ
def S_114:Ac:=BS AC BB (λs=>s.length<1000000) isWord
theorem K_114:Ag env 114 S_114:=kc1 (lm:=L_45) (lt:=[(137,t137)]) Ar M_45 wI fO λs h=>by
 have e:=kN (call:=AY env pu (AV L_45) (AX [(137,t137)]) (2000001+1)) (k:=2000000) (λc τ=>AU.c1 (show AU env (AY env pu (AV L_45) (AX [(137,t137)]) (2000001+1)) 136 S_136 from Bj rfl (by omega)) (x:=c) trivial τ) (λs τ h=>sD 2000001 (by omega) s τ h) s h .empty;exact ⟨2000001+1,2000000,_,_,e,BV (t:=BB)⟩
def L_46:LT:=(114,S_114) :: L_45
theorem M_46:MO L_46:=Ap K_114 M_45
def S_134:Ac:=BS AJ AJ (λ_=>True) SS.arity
theorem K_134:Ag env 134 S_134:=kc1 (lm:=L_46) (lt:=[]) Ar M_46 Au gF λn _=>C8 (k:=1) (k':=1) ⟨_,oU n _⟩
def L_47:LT:=(134,S_134) :: L_46
theorem M_47:MO L_47:=Ap K_134 M_46
def S_135:Ac:=BS Al BB (λt=>t.name.length<1000000/\t.loc.length<1000000) Ao.may
theorem K_135:Ag env 135 S_135:=kc1 (lm:=L_47) (lt:=[]) Ar M_47 Au gG λt h=>by
 obtain ⟨σ,e⟩:=nK (call:=AY env pu (AV L_47) (AX []) 1) (k:=2000000) (λs τ h=>AU.c1 (aq L_47 114 S_114 rfl) (x:=s) h τ) (λn τ=>AU.c1 (aq L_47 134 S_134 rfl) (x:=n) trivial τ) t h;exact ⟨1,2000000,_,σ,e,BV (t:=BB)⟩
def L_48:LT:=(135,S_135) :: L_47
theorem M_48:MO L_48:=Ap K_135 M_47
def S_113:Ac:=BS (AA Al) BB Ci Cl
theorem K_113:Ag env 113 S_113:=kc1 (lm:=L_48) (lt:=[]) Ar M_48 Au fM λl h=>by
 have hl:=h.1;obtain ⟨σ,e⟩:=rE (call:=AY env pu (AV L_48) (AX []) 1) (k:=2000000) (λt τ h1 h2=>AU.c1 (aq L_48 135 S_135 rfl) (x:=t) ⟨h1,h2⟩ τ) (λn τ=>AU.c1 (aq L_48 134 S_134 rfl) (x:=n) trivial τ) l h (by omega) .empty;exact ⟨1,2000000,_,σ,e,BV (t:=BB)⟩
def L_49:LT:=(113,S_113) :: L_48
theorem M_49:MO L_49:=Ap K_113 M_48
def S_43:Ac:=Bt (AA AC) AC AJ (λl _=>l.length<1000000) (λl s=>find s l)
theorem K_43:Ag env 43 S_43:=kc2 (lm:=L_49) (lt:=[]) Ar M_49 Au iU λl s h=>by
 have e:=eH (call:=AY env pu (AV L_49) (AX []) 1) (k:=2000000) l h (by omega) s .empty;exact ⟨1,2000000,_,_,e,BV (t:=AJ)⟩
def L_50:LT:=(43,S_43) :: L_49
theorem M_50:MO L_50:=Ap K_43 M_49
def S_85:Ac:=Bt (AA AC) AC BB (λl _=>l.length<1000000) (λl s=>decide (0<=find s l))
theorem K_85:Ag env 85 S_85:=kc2 (lm:=L_50) (lt:=[]) Ar M_50 Au j8 λl s h=>by
 have e:=ZX (call:=AY env pu (AV L_50) (AX []) 1) (k:=2000000) (λl s τ h=>AU.c2 (aq L_50 43 S_43 rfl) (x:=l) (y:=s) h τ) l h s .empty;exact ⟨1,2000000,_,_,e,BV (t:=BB)⟩
def L_51:LT:=(85,S_85) :: L_50
theorem M_51:MO L_51:=Ap K_85 M_50
def Hw:List (FuncId×CK):=[(110,t110),(82,t82),(132,t132),(131,t131),(83,t83),(133,t133)]
theorem Qb:Dy env pu (AX Hw):=Dg fI (Dg j5 (Dg gC (Dg gB (Dg j6 (Dg gD Au)))))
theorem Nz {lm:List (FuncId×Ac)} (h: ∀ f,f=110\/f=82\/f=132\/f=131\/f=83\/f=133->AV lm f=none):LM (AY env pu (AV lm) (AX Hw) (2000000+1+1+1)) where
 idxVar l b s σ hl hn:=by
  rw [DD (t:=t110) (h _ (by simp)) (by kernel_rfl) (by kernel_rfl) rfl];refine Te _ (λv b s σ hn=>?_) l hl (by omega) b s σ hn;rw [DD (t:=t131) (h _ (by simp)) (by kernel_rfl) (by kernel_rfl) rfl];exact kM v b s σ hn
 hasVar l b s σ hl hn:=by
  rw [DD (t:=t82) (h _ (by simp)) (by kernel_rfl) (by kernel_rfl) rfl];have key: ∃ σ',AY env pu (AV lm) (AX Hw) (2000000+1+1) 110 [(AA Az).enc l,.fn 83 [.ptr b 0 0]] σ=some (.int .i64 (find s (l.map (·.name))),σ')/\CS σ σ':=by
   rw [DD (t:=t110) (h _ (by simp)) (by kernel_rfl) (by kernel_rfl) rfl];refine Te _ (λv b s σ hn=>?_) l hl (by omega) b s σ hn;rw [DD (t:=t83) (h _ (by simp)) (by kernel_rfl) (by kernel_rfl) rfl];exact kL v b s σ hn
  obtain ⟨σ',e1,e2⟩:=key;exact ⟨σ',ZW e1,e2⟩
 idxProc l b s σ hl hn:=by
  rw [DD (t:=t132) (h _ (by simp)) (by kernel_rfl) (by kernel_rfl) rfl];refine dW _ (λv b s σ hn=>?_) l hl (by omega) b s σ hn;rw [DD (t:=t133) (h _ (by simp)) (by kernel_rfl) (by kernel_rfl) rfl];exact fB v b s σ hn
theorem oF: ∀ f,f=110\/f=82\/f=132\/f=131\/f=83\/f=133->AV L_51 f=none:=by
 rintro f (rfl | rfl | rfl | rfl | rfl | rfl)<;>kernel_rfl
def S_111:Ac:=Bt AP AC AJ (λm _=>Ae m) (λm s=>m.variable s)
theorem K_111:Ag env 111 S_111:=kc2 (lm:=L_51) (lt:=Hw) Ar M_51 Qb fJ λm s h=>by
 obtain ⟨σ,e⟩:=wY (Nz oF) (k:=2000000) m s h;exact ⟨_,2000000,_,σ,e,BV (t:=AJ)⟩
def L_52:LT:=(111,S_111) :: L_51
theorem M_52:MO L_52:=Ap K_111 M_51
theorem oG: ∀ f,f=110\/f=82\/f=132\/f=131\/f=83\/f=133->AV L_52 f=none:=by
 rintro f (rfl | rfl | rfl | rfl | rfl | rfl)<;>kernel_rfl
def S_112:Ac:=Jt AP AC AC (DV AJ AJ) (λm _ _=>Ae m) (λm s q=>(m.process s,m.place (m.process s) q))
theorem K_112:Ag env 112 S_112:=kc3 (lm:=L_52) (lt:=Hw) Ar M_52 Qb fK λm s q h=>by
 obtain ⟨σ,e⟩:=pQ (Nz oG) (k:=2000000) (λl s τ h=>AU.c2 (show AU env (AY env pu (AV L_52) (AX Hw) (2000000+1+1+1)) 43 S_43 from Bj rfl (by omega)) (x:=l) (y:=s) h τ) m s q h;exact ⟨_,2000000,_,σ,e,BV (t:=DV AJ AJ) (x:=(m.process s,m.place (m.process s) q))⟩
def L_53:LT:=(112,S_112) :: L_52
theorem M_53:MO L_53:=Ap K_112 M_52
def S_84:Ac:=Bt AP (AA Al) BB (λm l=>Ae m/\Ci l) AQ.known
theorem K_84:Ag env 84 S_84:=kc2 (lm:=L_53) (lt:=[]) Ar M_53 Au j7 λm l h=>by
 have hl:=h.2.1;obtain ⟨σ,e⟩:=lS (call:=AY env pu (AV L_53) (AX []) 1) (k:=2000000) (λm s τ h=>AU.c2 (aq L_53 111 S_111 rfl) (x:=m) (y:=s) h τ) (λm s q τ h=>AU.c3 (aq L_53 112 S_112 rfl) (x:=m) (y:=s) (z:=q) h τ) (λl τ h=>AU.c1 (aq L_53 113 S_113 rfl) (x:=l) h τ) m l h.1 h.2 (by omega);exact ⟨1,2000000,_,σ,e,BV (t:=BB)⟩
def L_54:LT:=(84,S_84) :: L_53
theorem M_54:MO L_54:=Ap K_84 M_53
def S_86:Ac:=BS AC BB (λs=>s.length<1000000) Eb
theorem K_86:Ag env 86 S_86:=kc1 (lm:=L_54) (lt:=[]) Ar M_54 Au j9 λs h=>by
 have e:=uW (call:=AY env pu (AV L_54) (AX []) 1) (k:=2000000) (λs τ h=>AU.c1 (aq L_54 114 S_114 rfl) (x:=s) h τ) s h .empty;exact ⟨1,2000000,_,_,e,BV (t:=BB)⟩
def L_55:LT:=(86,S_86) :: L_54
theorem M_55:MO L_55:=Ap K_86 M_54
def S_87:Ac:=BS Az BB (λ_=>True) bnd
theorem K_87:Ag env 87 S_87:=kc1 (lm:=L_55) (lt:=[]) Ar M_55 Au kC λv _=>by
 obtain ⟨σ,e⟩:=Y6 (AY env pu (AV L_55) (AX []) 1) 2000000 v;exact ⟨1,2000000,_,σ,e,BV (t:=BB)⟩
def L_56:LT:=(87,S_87) :: L_55
theorem M_56:MO L_56:=Ap K_87 M_55
def S_81:Ac:=Bt AP AC (AA AC) (λm _=>Ae m) AQ.zAp
theorem K_81:Ag env 81 S_81:=kc2 (lm:=L_56) (lt:=[]) Ar M_56 Au j4 λm s h=>by
 have hl:=h.procs;obtain ⟨v,σ,e1,e2⟩:=pV (call:=AY env pu (AV L_56) (AX []) 1) (k:=2000000) m s h (by omega);exact ⟨1,2000000,v,σ,e1,e2⟩
def L_57:LT:=(81,S_81) :: L_56
theorem M_57:MO L_57:=Ap K_81 M_56
def S_88:Ac:=BS (AA AC) BB (λl=>l.length<1000000/\∀ s∈l,s.length<1000000) Gc
theorem K_88:Ag env 88 S_88:=kc1 (lm:=L_57) (lt:=[]) Ar M_57 Au kD λl h=>by
 have hl:=h.1;obtain ⟨σ,e⟩:=nQ (call:=AY env pu (AV L_57) (AX []) 1) (k:=2000000) (λs τ h=>AU.c1 (aq L_57 114 S_114 rfl) (x:=s) h τ) l h.1 h.2 (by omega);exact ⟨1,2000000,_,σ,e,BV (t:=BB)⟩
def L_58:LT:=(88,S_88) :: L_57
theorem M_58:MO L_58:=Ap K_88 M_57
def S_65:Ac:=BS AP BB Ae Jh
theorem K_65:Ag env 65 S_65:=kc1 (lm:=L_58) (lt:=[]) Ar M_58 Au jM λm h=>by
 have l1:=h.vars;have l2:=h.procs
 have hB:AU env (AY env pu (AV L_58) (AX []) 1) 87 S_87:=Bj rfl (Nat.le_refl 1);have hN:AU env (AY env pu (AV L_58) (AX []) 1) 88 S_88:=Bj rfl (Nat.le_refl 1);obtain ⟨σ,e⟩:=nP (call:=AY env pu (AV L_58) (AX []) 1) (k:=2000000) ⟨λv τ=>AU.c1 hB (x:=v) trivial τ,λv l τ hv h1 h2=>AU.f1 hN (x:=l) ⟨h1,h2⟩ hv (.inr rfl)⟩ m h (by omega) (by omega);exact ⟨1,2000000,_,σ,e,BV (t:=BB)⟩
def L_59:LT:=(65,S_65) :: L_58
theorem M_59:MO L_59:=Ap K_65 M_58
theorem oH: ∀ f,f=110\/f=82\/f=132\/f=131\/f=83\/f=133->AV L_59 f=none:=by
 rintro f (rfl | rfl | rfl | rfl | rfl | rfl)<;>kernel_rfl
def S_64:Ac:=Bt AP BF BB (λm t=>Ae m/\Dl t) AQ.rightT
theorem K_64:Ag env 64 S_64:=kc2 (lm:=L_59) (lt:=Hw) Ar M_59 Qb jL λm t h=>by
 have hl:=h.2.2.2.2.2.2.1;have q: ∀ {f g},AV L_59 f=some g->AU env (AY env pu (AV L_59) (AX Hw) (2000000+1+1+1)) f g:=λh=>Bj h (by omega)
 obtain ⟨σ,e⟩:=nO (Nz oH) ⟨λm s τ h=>AU.c2 (show AU env _ 81 S_81 from q rfl) (x:=m) (y:=s) h τ,λl s τ h=>AU.c2 (show AU env _ 85 S_85 from q rfl) (x:=l) (y:=s) h τ,λm l τ h1 h2=>AU.c2 (show AU env _ 84 S_84 from q rfl) (x:=m) (y:=l) ⟨h1,h2⟩ τ,λs τ h=>AU.c1 (show AU env _ 86 S_86 from q rfl) (x:=s) h τ⟩ (k:=2000000) m t h.1 h.2 (by omega);exact ⟨_,2000000,_,σ,e,BV (t:=BB)⟩
def L_60:LT:=(64,S_64) :: L_59
theorem M_60:MO L_60:=Ap K_64 M_59
def S_36:Ac:=BS AP BB Ae AQ.right
theorem K_36:Ag env 36 S_36:=kc1 (lm:=L_60) (lt:=[]) Ar M_60 Au iL λm h=>by
 have hl:=h.trans;obtain ⟨σ,e⟩:=rF (call:=AY env pu (AV L_60) (AX []) 1) (k:=2000000) (λm t τ h1 h2=>AU.c2 (aq L_60 64 S_64 rfl) (x:=m) (y:=t) ⟨h1,h2⟩ τ) (λm τ h=>AU.c1 (aq L_60 65 S_65 rfl) (x:=m) h τ) m h (by omega);exact ⟨1,2000000,_,σ,e,BV (t:=BB)⟩
def L_61:LT:=(36,S_36) :: L_60
theorem M_61:MO L_61:=Ap K_36 M_60
def S_12:Ac:=Bt AP Af BB (λm s=>Ae m/\BX s) (λm s=>m.right&&m.fits s)
theorem K_12:Ag env 12 S_12:=kc2 (lm:=L_61) (lt:=[]) Ar M_61 Au fP λm s h=>by
 have l1:=h.1.vars;have l2:=h.1.procs
 obtain ⟨σ,e⟩:=uE (call:=AY env pu (AV L_61) (AX []) 1) (k:=2000000) (λm τ h=>AU.c1 (aq L_61 36 S_36 rfl) (x:=m) h τ) m s h.1 h.2 (by omega) (by omega);exact ⟨1,2000000,_,σ,e,BV (t:=BB)⟩
def L_62:LT:=(12,S_12) :: L_61
theorem M_62:MO L_62:=Ap K_12 M_61
def S_13:Ac:=Jt AP Af AC AC (λm s _=>Ae m/\BX s) Jk
theorem K_13:Ag env 13 S_13:=kc3 (lm:=L_62) (lt:=[]) Ar M_62 Au fZ λm s q h=>by
 have l2:=h.1.procs;obtain ⟨σ,e⟩:=uC (call:=AY env pu (AV L_62) (AX []) 1) (k:=2000000) (λm s τ h1 h2=>AU.c2 (aq L_62 12 S_12 rfl) (x:=m) (y:=s) ⟨h1,h2⟩ τ) m s q h.1 h.2 (by omega);exact ⟨1,2000000,_,σ,e,BV (t:=AC)⟩
def L_63:LT:=(13,S_13) :: L_62
theorem M_63:MO L_63:=Ap K_13 M_62
def S_34:Ac:=BS AJ AC (λn=>-999<=n/\n<=999) BK
theorem K_34:Ag env 34 S_34:=lC
def L_64:LT:=(34,S_34) :: L_63
theorem M_64:MO L_64:=Ap K_34 M_63
def S_35:Ac:=Bt (AA AC) AC AC (λl sep=>l.length<=7/\(∀ s∈l,s.length<=8)/\sep=[32]) (λl _=>C9 [32] l)
theorem K_35:Ag env 35 S_35:=lD
def L_65:LT:=(35,S_35) :: L_64
theorem M_65:MO L_65:=Ap K_35 M_64
def S_11:Ac:=Bt AP Af AC (λm s=>Ae m/\BX s) Bu
theorem K_11:Ag env 11 S_11:=kc2 (lm:=L_65) (lt:=[]) Ar M_65 Au fH λm s h=>by
 have l2:=h.1.procs;have l3:=h.2.2;have hJ:AU env (AY env pu (AV L_65) (AX []) 1) 35 S_35:=Bj rfl (Nat.le_refl 1);obtain ⟨σ,e⟩:=uD (call:=AY env pu (AV L_65) (AX []) 1) (k:=2000000) (λm s τ h1 h2=>AU.c2 (aq L_65 12 S_12 rfl) (x:=m) (y:=s) ⟨h1,h2⟩ τ) (λn τ h1 h2=>AU.c1 (aq L_65 34 S_34 rfl) (x:=n) ⟨h1,h2⟩ τ) (λv l τ hv h1 h2=>AU.f2 hJ (x:=l) (y:=[32]) ⟨h1,h2,rfl⟩ (bR hv) (.inr rfl)) m s h.1 h.2 (by omega) (by omega);exact ⟨1,2000000,_,σ,e,BV (t:=AC)⟩
def L_66:LT:=(11,S_11) :: L_65
theorem M_66:MO L_66:=Ap K_11 M_65
def S_14:Ac:=BS AC (DV AJ BB) (λs=>s.length<1000000) (λs=>amount s true)
theorem K_14:Ag env 14 S_14:=kc1 (lm:=L_66) (lt:=[]) Ar M_66 Au gK λs h=>by
 have e:=YT (call:=AY env pu (AV L_66) (AX []) 1) (k:=2000000) (λs g τ h=>AU.c2 (aq L_66 37 S_37 rfl) (x:=s) (y:=g) (show s.length<1900000 by omega) τ) s h .empty;exact ⟨1,2000000,_,_,e,BV (t:=DV AJ BB)⟩
def L_67:LT:=(14,S_14) :: L_66
theorem M_67:MO L_67:=Ap K_14 M_66
end
end Go.Proofs.YtglndmmlghpdpaaGreatDoor
namespace Go.Proofs.YtglndmmlghpdpaaGreatDoor
open Go SS
set_option maxRecDepth 100000
theorem bD {l:List B} (h:twice l=false) (i:Nat) (hi:i<l.length):find l[i] l=(i:Int):=by
 unfold find;have:l.findIdx? (·==l[i])=some i:=by
  rw [List.findIdx?_eq_some_iff_getElem];refine ⟨hi,by simp,λj hj=>?_⟩;intro e;have e:l[j]=l[i]:=by simpa using e
  have:=(LA _).1 h i hi;apply this;rw [<-e];have hj2:j<(l.take i).length:=by simp;omega
  have h2:(l.take i)[j]=l[j]:=by simp
  rw [<-h2];exact List.getElem_mem hj2
 rw [this]
theorem mR {m:AQ} (h:m.right=true): ∀ p∈m.procs,twice p.locs=false:=by
 unfold AQ.right at h;simp only [Bool.and_eq_true,decide_eq_true_eq,List.all_eq_true,Bool.not_eq_true'] at h;intro p hp;have:=h.2.1 p hp;unfold Bi.right at this;simp only [Bool.and_eq_true,decide_eq_true_eq,List.all_eq_true,Bool.not_eq_true'] at this;exact this.2.2.2.1
def Es (num:B->Int) (m:AQ) (t:B):BG:=⟨(m.procs.zip (cut 32 t)).map (λp=>find p.2 p.1.locs),((cut 32 t).drop m.procs.length).map num⟩
def Dc (num:B->Int) (m:AQ) (t:B):BG×Bool :=
 if m.right&&decide ((cut 32 t).length=m.procs.length+m.vars.length) then
  (if m.fits (Es num m t)&&decide (Bu m (Es num m t)=t) then (Es num m t,true) else (⟨[],[]⟩,false))
 else (⟨[],[]⟩,false)
theorem qO {num:B->Int} (hn: ∀ k,-999<=k->k<=999->num (BK k)=k) {m:AQ} {s:BG} (hr:m.right=true) (hf:m.fits s=true):Es num m (Bu m s)=s:=by
 obtain ⟨f1,f2,f3,f4⟩:=(Em m s).1 hf;have hl:=FN m s f1;unfold Es;rw [Ur hr hf];have e1:(m.procs.zip (Bb m s++s.vals.map BK)).map (λp=>find p.2 p.1.locs)=s.locs:=by
  apply List.ext_getElem
  ·simp [List.length_zip,hl];omega
  ·intro i h1 h2;have hi:i<m.procs.length:=by omega
   obtain ⟨n,hn2,hlt,e,_⟩:=Jg hr hf i hi h2;have hli:i<(Bb m s).length:=by omega
   rw [List.getElem?_eq_getElem hli] at e;rw [List.getElem_map,List.getElem_zip,List.getElem_append_left hli,Option.some.inj e,hn2];exact bD (mR hr _ (List.getElem_mem hi)) n hlt
 have e2:((Bb m s++s.vals.map BK).drop m.procs.length).map num=s.vals:=by
  rw [<-hl,List.drop_left,List.map_map];apply List.ext_getElem
  ·simp
  ·intro i h1 h2;rw [List.getElem_map];obtain ⟨u0,u1⟩:=f4 i (by omega) h2;obtain ⟨_,v1,v2,v3,v4⟩:=(Gg hr).1 _ (List.getElem_mem (show i<m.vars.length by omega));exact hn _ (by omega) (by omega)
 rw [e1,e2]
theorem Pt {num:B->Int} (hn: ∀ k,-999<=k->k<=999->num (BK k)=k) {m:AQ} {s:BG} (hr:m.right=true) (hf:m.fits s=true):Dc num m (Bu m s)=(s,true):=by
 obtain ⟨f1,f2,_⟩:=(Em m s).1 hf;have hl:(cut 32 (Bu m s)).length=m.procs.length+m.vars.length:=by
  rw [Ur hr hf,List.length_append,FN m s f1,List.length_map];omega
 unfold Dc;rw [qO hn hr hf,hr,hf,hl];simp
theorem pF {a b:B->Int} (ha: ∀ k,-999<=k->k<=999->a (BK k)=k) (hb: ∀ k,-999<=k->k<=999->b (BK k)=k) (m:AQ) (t:B):Dc a m t=Dc b m t:=by
 by_cases h: ∃ s,m.right=true/\m.fits s=true/\Bu m s=t
 ·obtain ⟨s,hr,hf,rfl⟩:=h;rw [Pt ha hr hf,Pt hb hr hf]
 ·have key: ∀ num:B->Int,Dc num m t=(⟨[],[]⟩,false):=by
   intro num;unfold Dc
   split
   ·rename_i h1;rw [Bool.and_eq_true] at h1
    split
    ·rename_i h2;rw [Bool.and_eq_true,decide_eq_true_eq] at h2;exact absurd ⟨_,h1.1,h2.1,h2.2⟩ h
    ·rfl
   ·rfl
  rw [key a,key b]
def amN (w:B):Int:=(amount w true).1
theorem YS (k:Int) (h1: -999<=k) (h2:k<=999):amN (BK k)=k:=by unfold amN;rw [YW k h1 h2]
def DP (m:AQ):BG:=⟨m.procs.map λ_=>0,m.vars.map (·.init)⟩
theorem aL {call:SS.Call} {k:Nat} (a b:List Int) (ha:a.length<1000000) (hb:b.length<1000000) (hk:a.length<k) (τ:St) :
 t40 call k [(AA AJ).enc a,(AA AJ).enc b] τ=some (.bool (decide (a=b)),τ):=by
 generalize hw:t40 call k [(AA AJ).enc a,(AA AJ).enc b] τ=w;unfold t40 at hw;by_cases hl:a.length=b.length
 ·have hl':=eq_true (show (a.length:Int)=(b.length:Int) by omega);have hbd: ∀ (i:Nat) (hi:i<a.length),t40_0 call k [(AA AJ).enc a,(AA AJ).enc b,.int .i64 (a.length:Int),.int .i64 (i:Int)] τ=(bif decide (a[i]=b[i]'(by omega)) then some (.norm,[(AA AJ).enc a,(AA AJ).enc b,.int .i64 (a.length:Int),.int .i64 ((i+1:Nat):Int)],τ) else some (.ret,[.bool false],τ)):=by
   intro i hi;have hi':=eq_true (show (i:Int)<(a.length:Int) by omega);have h2:i<b.length:=by omega
   unfold t40_0;by_cases d:a[i]=b[i]
   ·have d':=eq_true d;rw [decide_eq_true d];simp (disch:=try exact dD _) only [↓reduceIte,↓rK,rO,hi',d',cond_true];rfl
   ·have d':=eq_false d;rw [decide_eq_false d];simp (disch:=try exact dD _) only [↓reduceIte,↓rK,rO,hi',d',cond_false]
  obtain ⟨τ2,g1,rfl⟩:=D6 (P:=t40_0 call k) (I:=λσ=>σ=τ) (mk:=λi=>[(AA AJ).enc a,(AA AJ).enc b,.int .i64 (a.length:Int),.int .i64 (i:Int)]) (fin:=[]) (res:=[.bool false]) (id:=0) (n:=a.length)
   (ok:=λi=>if h:i<a.length then decide (a[i]=b[i]'(by omega)) else true)
   (by
     rintro i σ hi rfl ho
     simp only [dif_pos hi] at ho;exact ⟨σ,by rw [hbd i hi,ho];rfl,rfl⟩)
   (by
     rintro i σ hi rfl ho
     simp only [dif_pos hi] at ho;exact ⟨σ,by rw [hbd i hi,ho];rfl,rfl⟩)
   (by
     rintro σ rfl
     refine ⟨σ,?_,rfl⟩;have hi':=eq_false (show ¬(a.length:Int)<(a.length:Int) by omega);unfold t40_0;simp (disch:=try exact dD _) only [↓reduceIte,↓rK,rP,hi'])
   a.length 0 k τ (by omega) hk rfl
  have key:DN (λi=>if h:i<a.length then decide (a[i]=b[i]'(by omega)) else true) a.length 0=decide (a=b):=by
   rw [Bool.eq_iff_iff,GS,decide_eq_true_eq];constructor
   ·intro h;refine List.ext_getElem hl λi h1 h2=>?_
    have:=h i (by omega) (by omega);simpa only [dif_pos h1,decide_eq_true_eq] using this
   ·rintro rfl i _ hi
    have hi:i<a.length:=by omega
    simp [hi]
  rw [key,show ((0:Nat):Int)=0 from rfl] at g1;simp (disch:=try exact dD _) only [↓reduceIte,↓rK,rO,hl',g1] at hw;cases hd:decide (a=b) with
  | true =>
   rw [hd] at hw;simp only [rO,cond_true] at hw;unfold t40_1 at hw;simp only [↓rK,rO,AL] at hw;exact hw.symm
  | false =>
   rw [hd] at hw;simp only [rO,AL,cond_false] at hw;exact hw.symm
 ·have hl':=eq_false (show ¬(a.length:Int)=(b.length:Int) by omega);simp (disch:=try exact dD _) only [↓reduceIte,↓rK,rO,AL,hl'] at hw;rw [decide_eq_false (λh=>hl (by rw [h]))];exact hw.symm
theorem BG.zAd (a b:BG):a=b↔a.locs=b.locs/\a.vals=b.vals:=by cases a;cases b;simp
instance:DecidableEq BG:=λa b=>decidable_of_iff _ (BG.zAd a b).symm
theorem VN (a b:BG):(decide (a.locs=b.locs)&&decide (a.vals=b.vals))=decide (a=b):=by
 rw [Bool.eq_iff_iff,Bool.and_eq_true,decide_eq_true_eq,decide_eq_true_eq,decide_eq_true_eq,BG.zAd]
theorem sH {call:SS.Call} {k:Nat} (h1: ∀ (a b:List Int) τ,a.length<1000000->b.length<1000000->call 40 [(AA AJ).enc a,(AA AJ).enc b] τ=some (.bool (decide (a=b)),τ)) (a b:BG) (ha:BX a) (hb:BX b) :
 ∃ σ,t18 call k [Af.enc a,Af.enc b] .empty=some (.bool (decide (a=b)),σ):=by
 have q1:=λτ=>h1 a.locs b.locs τ ha.1 hb.1
 have q2:=λτ=>h1 a.vals b.vals τ ha.2 hb.2
 generalize hw:t18 call k [Af.enc a,Af.enc b] .empty=w;unfold t18 at hw;rw [<-VN];cases hd:decide (a.locs=b.locs) with
 | true =>
  rw [hd] at q1;simp (disch:=try exact dD _) only [↓reduceIte,↓rK,rO,AL,Nat.reduceEqDiff,q1,q2] at hw;exact ⟨_,hw.symm⟩
 | false =>
  rw [hd] at q1;simp (disch:=try exact dD _) only [↓reduceIte,↓rK,rO,AL,Nat.reduceEqDiff,q1] at hw;exact ⟨_,hw.symm⟩
theorem yD:Cm env.P 3=some (.int .i64 0):=by kernel_rfl
theorem wK:env.P.underlying 33=some (.slice 3):=by kernel_rfl
theorem u7: ∃ i,env.P.info? 3=some i/\i.size=1/\i.bytes=8:=⟨_,rfl,by kernel_rfl,by kernel_rfl⟩
theorem US {R:Type} (n:Nat) (hn:n<1000000) (σ:St) (K:V->St->Option R):pK (Da env 33 (.int .i64 (n:Int)) (.int .i64 (n:Int)) σ) K=K (.ref σ.n 0 0 n (some n)) (σ.new (.blk (List.replicate n (.int .i64 0)) 3 0 false)):=by
 obtain ⟨i,h1,h2,h3⟩:=u7;have e:Da env 33 (.int .i64 (n:Int)) (.int .i64 (n:Int)) σ=some (.ref σ.n 0 0 n (some n),σ.new (.blk (List.replicate n (.int .i64 0)) 3 0 false)):=by
  have e0:Da env 33 (.int .i64 (n:Int)) (.int .i64 (n:Int)) σ=(match env.P.info? 3,Cm env.P 3 with
   | some i,some z=>if (Nat.ble n n&&Nat.ble (i.bytes*n) 140737488355328&&Nat.ble n 4294967296&&Nat.beq z.cells.length i.size&&Nat.blt 0 i.size)=true then some (.ref σ.n 0 0 n (some n),σ.new (.blk (Cu n z.cells) 3 0 false)) else none
   | _,_=>none):=by
   unfold Da;rw [wK];rfl
  rw [e0,h1,yD];have a1:Nat.ble n n=true:=Nat.ble_eq_true_of_le (Nat.le_refl _);have a2:Nat.ble (i.bytes*n) 140737488355328=true:=Nat.ble_eq_true_of_le (by rw [h3];omega);have a3:Nat.ble n 4294967296=true:=Nat.ble_eq_true_of_le (by omega);have a4:Nat.beq (V.int .i64 0).cells.length i.size=true:=by rw [h2];rfl
  have a5:Nat.blt 0 i.size=true:=by rw [h2];rfl
  simp only [a1,a2,a3,a4,a5,Bool.and_self,if_true];have:Cu n (V.int .i64 0).cells=List.replicate n (V.int .i64 0):=by
   unfold Cu;show (List.replicate n [V.int .i64 0]).flatten=_;simp [List.flatten_replicate_singleton]
  rw [this]
 rw [e];rfl
theorem TN {σ:St} {b n:Nat} {cs:List Int} (hg:σ.get b=some (.blk (rows AJ cs) 3 0 false)) (hn:cs.length=n) (hb:b<σ.n) {d:Nat} (hd:1<=d):frz env σ (d+1) (.ref b 0 0 n (some n))=some ((AA AJ).enc cs):=by
 have h:Lst σ 3 1 (.ref b 0 0 cs.length none) cs.length (rows AJ cs) b:=.inr ⟨0,rfl,hg,by rw [Mo (sz:=1) (λ_=>rfl)],hb⟩;subst hn;have:=En hd h;exact this
theorem sA (cs:List Int):rows AJ cs=cs.map (V.int .i64):=by
 induction cs with
 | nil=>rfl
 | cons a r ih=>show V.int .i64 a :: rows AJ r=_;rw [ih];rfl
theorem Tl (m:AQ):rows AJ (DP m).locs=List.replicate m.procs.length (.int .i64 0):=by
 rw [sA];unfold DP;rw [List.map_map,List.eq_replicate_iff];exact ⟨by simp,by simp⟩
structure II (τ:St) (m:AQ) (xv:V) (i:Nat):Prop where
 r:τ.get 1=some (.blk [.nilS,.nilS] 35 0 false)
 l:τ.get 2=some (.blk (rows AJ (DP m).locs) 3 0 false)
 s:τ.get 3=some (.blk [.ref 2 0 0 m.procs.length (some m.procs.length),xv] 35 0 false)
 n:4<=τ.n
 v: ∃ b,Lst τ 3 1 xv i (rows AJ ((m.vars.take i).map (·.init))) b/\4<=b
theorem eQ {call:SS.Call} {k:Nat} (m:AQ) (hm:Ae m) (hk:m.vars.length<k) (τ:St) (hI:II τ m .nilS 0) :
 ∃ σ xv,Ai (t23_0 call k) k [.ptr 1 0 0,.ptr 3 0 0,(AA Az).enc m.vars,.int .i64 (m.vars.length:Int),.int .i64 0] τ=some (.exit 0,[.ptr 1 0 0,.ptr 3 0 0],σ)/\II σ m xv m.vars.length:=by
 have hlen:=hm.vars
 obtain ⟨e,vs',σ,q1,q2,q3⟩:=Bl (P:=t23_0 call k) (Inv:=λr v σ=>∃ (i:Nat) (xv:V),r+i=m.vars.length/\v=[.ptr 1 0 0,.ptr 3 0 0,(AA Az).enc m.vars,.int .i64 (m.vars.length:Int),.int .i64 (i:Int)]/\II σ m xv i)
  (Q:=λy=>y.1=.exit 0/\y.2.1=[.ptr 1 0 0,.ptr 3 0 0]/\∃ xv,II y.2.2 m xv m.vars.length)
  (by
    rintro r v σ ⟨i,xv,hri,rfl,hS⟩
    generalize hw:t23_0 call k [.ptr 1 0 0,.ptr 3 0 0,(AA Az).enc m.vars,.int .i64 (m.vars.length:Int),.int .i64 (i:Int)] σ=w;unfold t23_0 at hw;by_cases hi:i<m.vars.length
    ·have hi':=eq_true (show (i:Int)<(m.vars.length:Int) by omega);obtain ⟨b,hL,hb4⟩:=hS.v;have hn:=hS.n;obtain ⟨b1,hL1,hb1⟩:=EI 5 hL;have far: ∀ c,c<σ.n->((σ.new (.blk [.str [],.int .i64 0,.int .i64 0,.int .i64 0] 62 0 false)).put σ.n (.blk [.str m.vars[i].name,.int .i64 m.vars[i].low,.int .i64 m.vars[i].high,.int .i64 m.vars[i].init] 62 0 false)).get c=σ.get c:=λc hc=>by rw [St.zAg,if_neg (by omega),St.zAe,if_neg (by omega)]
     have hL2:=hL1.of (σ':=(σ.new (.blk [.str [],.int .i64 0,.int .i64 0,.int .i64 0] 62 0 false)).put σ.n (.blk [.str m.vars[i].name,.int .i64 m.vars[i].low,.int .i64 m.vars[i].high,.int .i64 m.vars[i].init] 62 0 false)) (λhc=>far _ hc) (by rw [A9,Aa];omega);obtain ⟨x',b',σ',ha,hL',hn',hfr,hb',hbn'⟩:=DQ (new:=[.int .i64 m.vars[i].init]) hL2 (by omega) rfl (by decide);rw [A9,Aa] at hn' hfr hb';have g: ∀ c,c<4->σ'.get c=σ.get c:=λc hc=>by rw [hfr c (by omega) (by omega),far c (by omega)]
     have g3:σ'.get 3=some (.blk [.ref 2 0 0 m.procs.length (some m.procs.length),xv] 35 0 false):=by rw [g 3 (by omega)];exact hS.s
     have hs3:=hS.s;have ho:xv.one=true:=hL.one;have ho':x'.one=true:=hL'.one;have hrow:rows AJ ((m.vars.take (i+1)).map (·.init))=rows AJ ((m.vars.take i).map (·.init))++[.int .i64 m.vars[i].init]:=by
      rw [List.take_succ_eq_append_getElem hi,List.map_append];exact DI AJ _ _
     simp (disch:=try exact dD _) only [↓reduceIte,↓rK,rO,Nat.reduceAdd,hi',Ay FW,hs3,ho,ha,g3] at hw;refine .inl ⟨r - 1,_,_,by omega,hw.symm,i+1,x',by omega,rfl,?_⟩;refine ⟨by rw [St.zAg,if_neg (by omega),g 1 (by omega)];exact hS.r,by rw [St.zAg,if_neg (by omega),g 2 (by omega)];exact hS.l,by rw [St.zAg,if_pos rfl],by rw [A9];omega,b',?_,by omega⟩;rw [hrow];exact hL'.of (λ_=>by rw [St.zAg,if_neg (by omega)]) (Nat.le_refl _)
    ·have he:i=m.vars.length:=by omega
     subst he;have hi':=eq_false (show ¬(m.vars.length:Int)<(m.vars.length:Int) by omega);simp (disch:=try exact dD _) only [↓reduceIte,↓rK,rO,hi'] at hw;exact .inr ⟨_,_,σ,hw.symm,(by intro h;cases h),rfl,rfl,xv,hS⟩)
  m.vars.length k [.ptr 1 0 0,.ptr 3 0 0,(AA Az).enc m.vars,.int .i64 (m.vars.length:Int),.int .i64 0] τ hk ⟨0,.nilS,by omega,rfl,hI⟩
 obtain ⟨q3,q4,xv,q5⟩:=q3;simp only at q3 q4 q5;subst q3 q4;exact ⟨σ,xv,q1,q5⟩
theorem eT {call:SS.Call} {k:Nat} (h1: ∀ (m:AQ) τ,Ae m->call 36 [AP.enc m] τ=some (.bool m.right,τ)) (m:AQ) (hm:Ae m) (hk:m.vars.length<k) :
 ∃ v σ,t23 call k [AP.enc m] .empty=some (v,σ)/\Bn env σ v (Af.enc (if m.right then DP m else ⟨[],[]⟩)):=by
 have hl1:=hm.procs;have hl2:=hm.vars
 have h1':=λτ=>h1 m τ hm
 generalize hw:t23 call k [AP.enc m] .empty=w;unfold t23 at hw;have hst: ∀ (b:Nat) (σ:St) (x y a c:V),a.one=true->c.one=true->σ.get b=some (.blk [x,y] 35 0 false)->storeAt env 35 (.ptr b 0 0) (.agg [a,c]) σ=some (σ.put b (.blk [a,c] 35 0 false)):=λb σ x y a c ha hc hg=>Ef K7 hg rfl rfl (by simp [V.cells,BO,ha,hc])
 cases hr:m.right with
 | false =>
  rw [hr] at h1';have hs0:=hst 1 ((St.empty.new (.blk (V.cellsF (AP.enc m)) 30 0 false)).new (.blk [.nilS,.nilS] 35 0 false)) .nilS .nilS .nilS .nilS rfl rfl (by simp (disch:=decide) [St.zAe,Aa,BD]);simp only [Cj] at hs0;simp (disch:=try exact dD _) only [↓reduceIte,↓rK,rO,AL,Nat.reduceAdd,Nat.reduceEqDiff,h1',hs0] at hw;exact ⟨_,_,hw.symm,.inr ⟨(by intro h;cases h),rfl⟩⟩
 | true =>
  rw [hr] at h1';have hmk:=λ(σ:St) (K:V->St->Option (AEx×List V×St))=>US m.procs.length hl1 σ K
  have h0:II ((((((St.empty.new (.blk (V.cellsF (AP.enc m)) 30 0 false)).new (.blk [.nilS,.nilS] 35 0 false)).new (.blk (List.replicate m.procs.length (.int .i64 0)) 3 0 false)).new (.blk [.nilS,.nilS] 35 0 false)).put 3 (.blk [.ref 2 0 0 m.procs.length (some m.procs.length),.nilS] 35 0 false))) m .nilS 0 :=
   ⟨by simp (disch:=decide) [St.zAe,St.zAg,Aa,BD],by rw [Tl];simp (disch:=decide) [St.zAe,St.zAg,Aa,BD],by simp (disch:=decide) [St.zAg],by rw [A9,Aa,Aa,Aa,Aa,BD];omega,4,C5 _ _ _ _,by omega⟩
  have hs0:=hst 3 ((((St.empty.new (.blk (V.cellsF (AP.enc m)) 30 0 false)).new (.blk [.nilS,.nilS] 35 0 false)).new (.blk (List.replicate m.procs.length (.int .i64 0)) 3 0 false)).new (.blk [.nilS,.nilS] 35 0 false)) .nilS .nilS (.ref 2 0 0 m.procs.length (some m.procs.length)) .nilS rfl rfl (by simp (disch:=decide) [St.zAe,Aa,BD]);obtain ⟨σ,xv,g1,g2⟩:=eQ (call:=call) (k:=k) m hm hk _ h0;simp only [Cj] at hs0 g1;obtain ⟨b,hL,hb4⟩:=g2.v;have hr2:=g2.r;have hs2:=g2.s
  have hs1:=hst 1 σ .nilS .nilS (.ref 2 0 0 m.procs.length (some m.procs.length)) xv rfl hL.one g2.r;unfold t23_1 at hw;simp (disch:=try exact dD _) only [↓reduceIte,↓rK,rO,AL,Nat.reduceAdd,Nat.reduceEqDiff,h1',hmk,hs0,g1,hs2,hs1] at hw;refine ⟨_,_,hw.symm,.inr ⟨?_,?_⟩⟩
  ·rw [E5,BM,BM];have:(V.ref 2 0 0 m.procs.length (some m.procs.length)).kind=2:=rfl;omega
  ·have hn:=g2.n;show (match [V.ref 2 0 0 m.procs.length (some m.procs.length),xv].mapM (frz env _ (62+1)) with | some ys=>some (V.agg ys) | none=>none)=_
   rw [List.mapM_cons,List.mapM_cons,List.mapM_nil,TN (cs:=(DP m).locs) (by rw [St.zAg,if_neg (by omega)];exact g2.l) (by simp [DP]) (by rw [A9];omega) (by omega),
    En (xs:=m.vars.map (·.init)) (by omega) (by rw [List.length_map];rw [List.take_length] at hL;exact hL.of (λ_=>by rw [St.zAg,if_neg (by omega)]) (Nat.le_refl _))]
   rfl
theorem Hu (b:Nat) (σ:St) (x y a c:V) (ha:a.one=true) (hc:c.one=true) (hg:σ.get b=some (.blk [x,y] 35 0 false)):storeAt env 35 (.ptr b 0 0) (.agg [a,c]) σ=some (σ.put b (.blk [a,c] 35 0 false)):=Ef K7 hg rfl rfl (by simp [V.cells,BO,ha,hc])
theorem qJ {n:Int} (h0:0<=n) (h1:n<5):0<=IntKind.i64.wrap (n.tdiv 4)/\IntKind.i64.wrap (n.tdiv 4)<=1:=by
 have:n=0\/n=1\/n=2\/n=3\/n=4:=by omega
 rcases this with rfl | rfl | rfl | rfl | rfl<;>decide
theorem oM {call:SS.Call} (hp: ∀ (n m:Int) τ,0<m->m<1000000000->call 33 [.int .i64 n,.int .i64 m] τ=some (.int .i64 (CF n m),τ)) {k:Nat} (m:AQ) (l:List Int) (how:Int) (hm:Ae m) (hr: ∀ p∈m.procs,1<=p.locs.length) (hk:m.procs.length<k) (τ:St) {xl xv:V} (hI:SI τ m xl xv [] []) :
 ∃ σ xl' ls,Ai (t15_1 call k) k [(AA AJ).enc l,.int .i64 how,.ptr 0 0 0,.ptr 1 0 0,.ptr 2 0 0,.int .i64 (m.procs.length:Int),.int .i64 0] τ=some (.exit 0,[(AA AJ).enc l,.int .i64 how,.ptr 0 0 0,.ptr 1 0 0,.ptr 2 0 0],σ)/\SI σ m xl' xv ls []/\ls.length=m.procs.length:=by
 have hlen:=hm.procs
 obtain ⟨e,vs',σ,q1,q2,q3⟩:=Bl (P:=t15_1 call k) (Inv:=λr v σ=>∃ (i:Nat) (xl':V) (ls:List Int),r+i=m.procs.length/\v=[(AA AJ).enc l,.int .i64 how,.ptr 0 0 0,.ptr 1 0 0,.ptr 2 0 0,.int .i64 (m.procs.length:Int),.int .i64 (i:Int)]/\SI σ m xl' xv ls []/\ls.length=i)
  (Q:=λy=>y.1=.exit 0/\y.2.1=[(AA AJ).enc l,.int .i64 how,.ptr 0 0 0,.ptr 1 0 0,.ptr 2 0 0]/\∃ xl' ls,SI y.2.2 m xl' xv ls []/\ls.length=m.procs.length)
  (by
    rintro r v σ ⟨i,xl',ls,hri,rfl,hS,hl⟩
    have hz:=hS.z;have hs:=hS.s
    have hx:xl'.one=true:=by obtain ⟨_,_,q1,_⟩:=hS.ls;exact q1.one
    generalize hw:t15_1 call k [(AA AJ).enc l,.int .i64 how,.ptr 0 0 0,.ptr 1 0 0,.ptr 2 0 0,.int .i64 (m.procs.length:Int),.int .i64 (i:Int)] σ=w;unfold t15_1 t15_0 at hw;by_cases hi:i<m.procs.length
    ·have hi':=eq_true (show (i:Int)<(m.procs.length:Int) by omega);by_cases hil:i<l.length
     ·have hil':=eq_true (show (i:Int)<(l.length:Int) by omega);have h1:=hr _ (List.getElem_mem hi);have h2:=(hm.proc _ (List.getElem_mem hi)).2.1;obtain ⟨u0,u1⟩:=Er how 5 (by omega);have p0:=hp how 5 σ (by omega) (by omega);obtain ⟨v0,v1⟩:=qJ u0 u1;have hq:=λ(K:Int->Option (AEx×List V×St))=>Fb (y:=4) (CF how 5) K (by omega)
      generalize IntKind.i64.wrap ((CF how 5).tdiv 4)=qq at *;have p1:=hp l[i] ((m.procs[i].locs.length:Int)+1 - qq) σ (by omega) (by omega);generalize CF l[i] ((m.procs[i].locs.length:Int)+1 - qq)=pk at *;obtain ⟨x',σ',a1,a2,a3,a4⟩:=hS.loc (by omega) (bK (decide (5<pk)) 5 pk);simp (disch:=try exact dD _) only [↓reduceIte,↓rK,rO,Nat.reduceAdd,hz,hs,hi',hil',p0,hq,p1,hx,a1,a2] at hw;exact .inl ⟨r - 1,_,_,by omega,hw.symm,i+1,x',ls++[bK (decide (5<pk)) 5 pk],by omega,rfl,a4,by simp;omega⟩
     ·have hil':=eq_false (show ¬(i:Int)<(l.length:Int) by omega);obtain ⟨x',σ',a1,a2,a3,a4⟩:=hS.loc (by omega) (bK (decide (5<(0:Int))) 5 0);simp (disch:=try exact dD _) only [↓reduceIte,↓rK,rO,Nat.reduceAdd,hs,hi',hil',hx,a1,a2] at hw;exact .inl ⟨r - 1,_,_,by omega,hw.symm,i+1,x',ls++[bK (decide (5<(0:Int))) 5 0],by omega,rfl,a4,by simp;omega⟩
    ·have he:i=m.procs.length:=by omega
     subst he;have hi':=eq_false (show ¬(m.procs.length:Int)<(m.procs.length:Int) by omega);simp (disch:=try exact dD _) only [↓reduceIte,↓rK,rO,hi'] at hw;exact .inr ⟨_,_,σ,hw.symm,(by intro h;cases h),rfl,rfl,xl',ls,hS,hl⟩)
  m.procs.length k [(AA AJ).enc l,.int .i64 how,.ptr 0 0 0,.ptr 1 0 0,.ptr 2 0 0,.int .i64 (m.procs.length:Int),.int .i64 0] τ hk ⟨0,xl,[],by omega,rfl,hI,rfl⟩
 obtain ⟨q3,q4,xl',ls,q5,q6⟩:=q3;simp only at q3 q4 q5;subst q3 q4;exact ⟨σ,xl',ls,q1,q5,q6⟩
theorem oP {call:SS.Call} (hp: ∀ (n m:Int) τ,0<m->m<1000000000->call 33 [.int .i64 n,.int .i64 m] τ=some (.int .i64 (CF n m),τ)) {k:Nat} (m:AQ) (l:List Int) (how:Int) (hm:Ae m) (hk:m.vars.length<k) (τ:St) {xl xv:V} {ls:List Int} (hI:SI τ m xl xv ls []) :
 ∃ σ xv' vs,Ai (t15_3 call k) k [(AA AJ).enc l,.int .i64 how,.ptr 0 0 0,.ptr 1 0 0,.ptr 2 0 0,.int .i64 (m.vars.length:Int),.int .i64 0] τ=some (.exit 2,[.int .i64 how,.ptr 1 0 0,.ptr 2 0 0],σ)/\SI σ m xl xv' ls vs/\vs.length=m.vars.length:=by
 have hlen:=hm.vars
 obtain ⟨e,vs',σ,q1,q2,q3⟩:=Bl (P:=t15_3 call k) (Inv:=λr v σ=>∃ (i:Nat) (xv':V) (vs:List Int),r+i=m.vars.length/\v=[(AA AJ).enc l,.int .i64 how,.ptr 0 0 0,.ptr 1 0 0,.ptr 2 0 0,.int .i64 (m.vars.length:Int),.int .i64 (i:Int)]/\SI σ m xl xv' ls vs/\vs.length=i)
  (Q:=λy=>y.1=.exit 2/\y.2.1=[.int .i64 how,.ptr 1 0 0,.ptr 2 0 0]/\∃ xv' vs,SI y.2.2 m xl xv' ls vs/\vs.length=m.vars.length)
  (by
    rintro r v σ ⟨i,xv',vs,hri,rfl,hS,hl⟩
    have hz:=hS.z;have hs:=hS.s
    have hx:xv'.one=true:=by obtain ⟨_,_,_,q1,_⟩:=hS.ls;exact q1.one
    generalize hw:t15_3 call k [(AA AJ).enc l,.int .i64 how,.ptr 0 0 0,.ptr 1 0 0,.ptr 2 0 0,.int .i64 (m.vars.length:Int),.int .i64 (i:Int)] σ=w;unfold t15_3 t15_2 at hw;by_cases hi:i<m.vars.length
    ·have hi':=eq_true (show (i:Int)<(m.vars.length:Int) by omega);by_cases hil:i<l.length
     ·have hil':=eq_true (show (i:Int)<(l.length:Int) by omega);have hq:=λ(K:Int->Option (AEx×List V×St))=>Fb (y:=7) l[i] K (by omega)
      obtain ⟨u0,u1⟩:=Er (IntKind.i64.wrap (l[i].tdiv 7)) 5 (by omega);have p1:=hp (IntKind.i64.wrap (l[i].tdiv 7)) 5 σ (by omega) (by omega);generalize CF (IntKind.i64.wrap (l[i].tdiv 7)) 5=pk at *;obtain ⟨x',σ',a1,a2,a3,a4⟩:=hS.val (by omega) (pk - 1);simp (disch:=try exact dD _) only [↓reduceIte,↓rK,rO,Nat.reduceAdd,hz,hs,hi',hil',hq,p1,hx,a1,a2] at hw;exact .inl ⟨r - 1,_,_,by omega,hw.symm,i+1,x',vs++[pk - 1],by omega,rfl,a4,by simp;omega⟩
     ·have hil':=eq_false (show ¬(i:Int)<(l.length:Int) by omega);obtain ⟨x',σ',a1,a2,a3,a4⟩:=hS.val (by omega) m.vars[i].init;simp (disch:=try exact dD _) only [↓reduceIte,↓rK,rO,Nat.reduceAdd,hz,hs,hi',hil',hx,a1,a2] at hw;exact .inl ⟨r - 1,_,_,by omega,hw.symm,i+1,x',vs++[m.vars[i].init],by omega,rfl,a4,by simp;omega⟩
    ·have he:i=m.vars.length:=by omega
     subst he;have hi':=eq_false (show ¬(m.vars.length:Int)<(m.vars.length:Int) by omega);simp (disch:=try exact dD _) only [↓reduceIte,↓rK,rO,hi'] at hw;exact .inr ⟨_,_,σ,hw.symm,(by intro h;cases h),rfl,rfl,xv',vs,hS,hl⟩)
  m.vars.length k [(AA AJ).enc l,.int .i64 how,.ptr 0 0 0,.ptr 1 0 0,.ptr 2 0 0,.int .i64 (m.vars.length:Int),.int .i64 0] τ hk ⟨0,xv,[],by omega,rfl,hI,rfl⟩
 obtain ⟨q3,q4,xv',vs,q5,q6⟩:=q3;simp only at q3 q4 q5;subst q3 q4;exact ⟨σ,xv',vs,q1,q5,q6⟩
theorem oL {call:SS.Call} {k:Nat} {m:AQ} {how:Int} {σ:St} {xl xv:V} {ls vs:List Int} (hS:SI σ m xl xv ls vs) (hl:vs.length<1000000) :
 ∃ v σ' vs',t15_5 call k [.int .i64 how,.ptr 1 0 0,.ptr 2 0 0] σ=some (.ret,[v],σ')/\v.kind≠0/\frz env σ' 64 v=some (Af.enc ⟨ls,vs'⟩)/\vs'.length<=vs.length+1:=by
 have key: ∀ {σ:St} {xv:V} {vs:List Int},SI σ m xl xv ls vs->∃ v σ',t15_4 call k [.ptr 1 0 0,.ptr 2 0 0] σ=some (.ret,[v],σ')/\v.kind≠0/\frz env σ' 64 v=some (Af.enc ⟨ls,vs⟩):=by
  intro σ xv vs hS;have hs:=hS.s;obtain ⟨bl,bv,e1,e2,d1,d2,d3⟩:=hS.ls;have hst:=Hu 1 σ .nilS .nilS xl xv e1.one e2.one hS.r;generalize hw:t15_4 call k [.ptr 1 0 0,.ptr 2 0 0] σ=w;unfold t15_4 at hw;simp (disch:=try exact dD _) only [↓reduceIte,↓rK,rO,Nat.reduceAdd,hs,hst] at hw;refine ⟨_,_,hw.symm,?_,?_⟩
  ·have:=Il e1;rw [E5,BM];omega
  ·have o: ∀ {ty sz v n cs b},Lst σ ty sz v n cs b->3<=b->Lst (σ.put 1 (.blk [xl,xv] 35 0 false)) ty sz v n cs b:=λh hb=>h.of (λ_=>by rw [St.zAg,if_neg (by omega)]) (Nat.le_refl _)
   show (match [xl,xv].mapM (frz env _ (62+1)) with | some ys=>some (V.agg ys) | none=>none)=_;rw [List.mapM_cons,List.mapM_cons,List.mapM_nil,En (by omega) (o e1 d1),En (by omega) (o e2 d2)];rfl
 have hs:=hS.s;have hx:xv.one=true:=by obtain ⟨_,_,_,q1,_⟩:=hS.ls;exact q1.one
 generalize hw:t15_5 call k [.int .i64 how,.ptr 1 0 0,.ptr 2 0 0] σ=w;unfold t15_5 at hw;have hrem:=λ(K:Int->Option (AEx×List V×St))=>Qr (x:=how) (y:=9) (by omega) K
 by_cases h8:how.tmod 9=8
 ·have h8':=eq_true h8;obtain ⟨x',σ',a1,a2,a3,a4⟩:=hS.val hl how;obtain ⟨v,σ2,e1,e2,e3⟩:=key a4;simp (disch:=try exact dD _) only [↓reduceIte,↓rK,rO,Nat.reduceAdd,hrem,h8',hs,↓BA,BA,hx,a1,a2,e1] at hw;exact ⟨v,σ2,vs++[how],hw.symm,e2,e3,by simp⟩
 ·have h8':=eq_false h8;obtain ⟨v,σ2,e1,e2,e3⟩:=key hS;simp (disch:=try exact dD _) only [↓reduceIte,↓rK,rO,hrem,h8',e1] at hw;exact ⟨v,σ2,vs,hw.symm,e2,e3,by omega⟩
theorem oO {call:SS.Call} (hp: ∀ (n m:Int) τ,0<m->m<1000000000->call 33 [.int .i64 n,.int .i64 m] τ=some (.int .i64 (CF n m),τ)) {k:Nat} (m:AQ) (l:List Int) (how:Int) (hm:Ae m) (hr: ∀ p∈m.procs,1<=p.locs.length) (hk:m.procs.length<k) (hk2:m.vars.length<k) (hv:m.vars.length<900000) :
 ∃ v σ s,t15 call k [AP.enc m,(AA AJ).enc l,.int .i64 how] .empty=some (v,σ)/\v.kind≠0/\frz env σ 64 v=some (Af.enc s)/\BX s:=by
 have h0:SI (((St.empty.new (.blk (V.cellsF (AP.enc m)) 30 0 false)).new (.blk [.nilS,.nilS] 35 0 false)).new (.blk [.nilS,.nilS] 35 0 false)) m .nilS .nilS [] [] :=
  ⟨by simp (disch:=decide) [St.zAe,Aa,BD],by simp (disch:=decide) [St.zAe,Aa,BD],by simp (disch:=decide) [St.zAe,Aa,BD],by rw [Aa,Aa,Aa,BD];omega,3,4,C5 _ _ _ _,C5 _ _ _ _,by omega,by omega,by omega⟩
 obtain ⟨σ1,xl,ls,g1,g2,g3⟩:=oM hp (k:=k) m l how hm hr hk _ h0;obtain ⟨σ2,xv,vs,f1,f2,f3⟩:=oP hp (k:=k) m l how hm hk2 _ g2;obtain ⟨v,σ3,vs',e1,e2,e3,e4⟩:=oL (call:=call) (k:=k) (how:=how) f2 (by omega);have hz:=g2.z;generalize hw:t15 call k [AP.enc m,(AA AJ).enc l,.int .i64 how] .empty=w;unfold t15 t15_6 at hw;simp only [Cj] at g1 hz;simp (disch:=try exact dD _) only [↓reduceIte,↓rK,rO,AL,Nat.reduceAdd,Nat.reduceEqDiff,g1,hz,f1,e1] at hw;refine ⟨_,_,⟨ls,vs'⟩,hw.symm,e2,e3,?_,?_⟩
 ·show ls.length<1000000;have:=hm.procs;omega
 ·show vs'.length<1000000;omega
theorem Ox (c:UInt8): ∀ (s:B) (i:Nat),(Dm [c] s i=-1/\cut c s=[s])\/∃ n:Nat,Dm [c] s i=((i+n:Nat):Int)/\n<s.length/\cut c s=s.take n :: cut c (s.drop (n+1))
 | [],i=>.inl ⟨rfl,rfl⟩
 | b :: r,i=>by
  have e:Dm [c] (b :: r) i=bif Nat.beq c.toNat b.toNat then Int.ofNat i else Dm [c] r (i+1):=by
   show (bif (bif Nat.beq c.toNat b.toNat then true else false) then Int.ofNat i else Dm [c] r (Nat.add i 1))=_;cases Nat.beq c.toNat b.toNat<;>rfl
  by_cases h:b=c
  ·subst h;right;refine ⟨0,by rw [e,Nat.beq_refl];rfl,by simp,?_⟩;rw [IU,if_pos rfl];rfl
  ·have hb:Nat.beq c.toNat b.toNat=false:=by
    cases hq:Nat.beq c.toNat b.toNat with
    | false=>rfl
    | true=>exact absurd (UInt8.toNat_inj.1 (Nat.eq_of_beq_eq_true hq)).symm h
   rw [e,hb,IU,if_neg h];rcases Ox c r (i+1) with ⟨h1,h2⟩ | ⟨n,h1,h2,h3⟩
   ·left;refine ⟨h1,?_⟩;rw [h2]
   ·right;refine ⟨n+1,?_,by simp;omega,?_⟩
    ·show Dm [c] r (i+1)=_;rw [h1];omega
    ·rw [h3];rfl
theorem R8 (c:UInt8): ∀ s:B,D3 (by8 c) s+1=(cut c s).length
 | []=>rfl
 | b :: r=>by
  have ih:=R8 c r;have e:D3 (by8 c) (b :: r)=if ((b.toNat:Int)==by8 c)=true then 1+D3 (by8 c) r else D3 (by8 c) r:=rfl
  rw [e,IU];by_cases h:b=c
  ·subst h;rw [if_pos (by unfold by8;simp),if_pos rfl,List.length_cons];omega
  ·have hb:((b.toNat:Int)==by8 c)=false:=by
    unfold by8;rw [beq_eq_false_iff_ne];intro hq;exact h (UInt8.toNat_inj.1 (by omega))
   rw [hb,if_neg (by decide),if_neg h,ih];cases hc:cut c r with
   | nil=>exact absurd hc (JN c r)
   | cons x t=>rfl
theorem WH:env.P.underlying 37=some (.slice 9):=by kernel_rfl
theorem yE:Cm env.P 9=some (.str []):=by kernel_rfl
theorem Vv: ∃ i,env.P.info? 9=some i/\i.size=1/\i.bytes=16:=⟨_,rfl,by kernel_rfl,by kernel_rfl⟩
theorem nM {R:Type} (n:Nat) (hn:n<4000000) (σ:St) (K:V->St->Option R):pK (Da env 37 (.int .i64 (n:Int)) (.int .i64 (n:Int)) σ) K=K (.ref σ.n 0 0 n (some n)) (σ.new (.blk (List.replicate n (V.str [])) 9 0 false)):=by
 obtain ⟨i,h1,h2,h3⟩:=Vv;have e:Da env 37 (.int .i64 (n:Int)) (.int .i64 (n:Int)) σ=some (.ref σ.n 0 0 n (some n),σ.new (.blk (List.replicate n (V.str [])) 9 0 false)):=by
  have e0:Da env 37 (.int .i64 (n:Int)) (.int .i64 (n:Int)) σ=(match env.P.info? 9,Cm env.P 9 with
   | some i,some z=>if (Nat.ble n n&&Nat.ble (i.bytes*n) 140737488355328&&Nat.ble n 4294967296&&Nat.beq z.cells.length i.size&&Nat.blt 0 i.size)=true then some (.ref σ.n 0 0 n (some n),σ.new (.blk (Cu n z.cells) 9 0 false)) else none
   | _,_=>none):=by
   unfold Da;rw [WH];rfl
  rw [e0,h1,yE];have a1:Nat.ble n n=true:=Nat.ble_eq_true_of_le (Nat.le_refl _);have a2:Nat.ble (i.bytes*n) 140737488355328=true:=Nat.ble_eq_true_of_le (by rw [h3];omega);have a3:Nat.ble n 4294967296=true:=Nat.ble_eq_true_of_le (by omega);have a4:Nat.beq (V.str []).cells.length i.size=true:=by rw [h2];rfl
  have a5:Nat.blt 0 i.size=true:=by rw [h2];rfl
  simp only [a1,a2,a3,a4,a5,Bool.and_self,if_true];have:Cu n (V.str []).cells=List.replicate n (V.str []):=by
   unfold Cu;show (List.replicate n [V.str []]).flatten=_;simp [List.flatten_replicate_singleton]
  rw [this]
 rw [e];rfl
theorem tH {n:Nat} (hn:0<n) (b:Nat) (σ:St):sliceAt env 37 (.ref b 0 0 n (some n)) none (some (.int .i64 (n:Int))) none σ=some (.ref b 0 0 n (some n)):=by
 obtain ⟨i,h1,h2,h3⟩:=Vv;have hb: ∀ m,CL m (some (.int .i64 (n:Int)))=some n:=λ_=>rfl
 have hb2: ∀ m,CL m none=some m:=λ_=>rfl
 unfold sliceAt;simp only [WH,h1,hb,hb2];have a1:Nat.ble 0 n=true:=Nat.ble_eq_true_of_le (Nat.zero_le _);have a2:Nat.ble n n=true:=Nat.ble_eq_true_of_le (Nat.le_refl _);have a3:Nat.beq (n - 0) 0=false:=by rw [Gd];exact decide_eq_false (by omega)
 simp [a1,a2];omega
theorem eG {call:SS.Call} {k:Nat} (h: ∀ (s t:B) τ,s.length<4000000->call 118 [.str s,.str t] τ=some (.int .i64 (Dm t s 0),τ)) (s t:B) (hs:s.length<4000000) (τ:St):t92 call k [.str s,.str t] τ=some (.int .i64 (Dm t s 0),τ):=by
 unfold t92;simp (disch:=try exact dD _) only [↓rK,rO,AL,h]
theorem Zb {call:SS.Call} {k:Nat} (h: ∀ (s:B) (c:UInt8) τ,call 117 [.str s,.int .u8 (by8 c)] τ=some (.int .i64 (D3 (by8 c) s:Int),τ)) (s:B) (c:UInt8) (τ:St):t91 call k [.str s,.str [c]] τ=some (.int .i64 (D3 (by8 c) s:Int),τ):=by
 unfold t91;have e0:=eq_false (show ¬(((0+1:Nat):Int))=0 by omega);have e1:=eq_true (show (((0+1:Nat):Int))=1 by omega);simp (disch:=try exact dD _) only [↓reduceIte,↓rK,rO,AL,h,e0,e1]
structure SpI (τ:St) (n i:Nat) (ws:List B):Prop where
 g:τ.get 0=some (.blk (rows AC ws++List.replicate (n - i) (V.str [])) 9 0 false)
 l:ws.length=i
 n:0<τ.n
theorem Ky (l:List B):(rows AC l).length=l.length:=by rw [Mo (sz:=1) (λ_=>rfl),Nat.mul_one]
theorem SpI.put {τ:St} {n i j:Nat} {ws:List B} (h:SpI τ n i ws) (hi:i<n) (w:B) (hj:j=i):SpI (τ.put 0 (.blk ((rows AC ws++List.replicate (n - i) (V.str [])).set j (.str w)) 9 0 false)) n (i+1) (ws++[w]):=by
 obtain ⟨g,l,hn⟩:=h;subst hj;refine ⟨?_,by simp [l],by rw [A9];exact hn⟩;rw [St.zAg,if_pos rfl];have e:n - j=(n - (j+1))+1:=by omega
 rw [e,List.replicate_succ,List.set_append_right _ _ (by rw [Ky];omega),Ky,l,Nat.sub_self,List.set_cons_zero,DI];simp;rfl
theorem tQ {σ:St} {n j:Nat} {ws:List B} {r:B} (h:SpI σ n (n - 1) ws) (hn:0<n) (hj:j=n - 1):Bn env (σ.put 0 (.blk ((rows AC ws++List.replicate (n - (n - 1)) (V.str [])).set j (.str r)) 9 0 false)) (.ref 0 0 0 n (some n)) ((AA AC).enc (ws++[r])):=by
 have hP:=h.put (by omega) r hj;rw [show n - 1+1=n by omega] at hP;have hg2:=hP.g;rw [Nat.sub_self,List.replicate_zero,List.append_nil] at hg2;have hl:=hP.l;have hL:Lst (σ.put 0 (.blk ((rows AC ws++List.replicate (n - (n - 1)) (V.str [])).set j (.str r)) 9 0 false)) 9 1 (.ref 0 0 0 n none) (ws++[r]).length (rows AC (ws++[r])) 0 :=
  .inr ⟨0,by rw [hl],hg2,by rw [Ky,Nat.mul_one],hP.n⟩
 rcases QR hL with ⟨h,_⟩ | ⟨_,h⟩
 ·cases h
 ·exact .inr ⟨(by intro h;cases h),h⟩
set_option maxHeartbeats 4000000 in
theorem tT {call:SS.Call} {k:Nat} (h: ∀ (s t:B) τ,s.length<4000000->call 92 [.str s,.str t] τ=some (.int .i64 (Dm t s 0),τ)) (s:B) (c:UInt8) (hs:s.length<3000000) (n:Nat) (hn:(cut c s).length=n) (hk:n<k) (τ:St) (h0:SpI τ n 0 []) :
 ∃ σ r ws,Ai (t67_0 call k) k [.str s,.str [c],.int .i64 0,.int .i64 ((n:Int) - 1),.ref 0 0 0 n (some n),.int .i64 0] τ=some (.exit 0,[.str r,.ref 0 0 0 n (some n),.int .i64 ((n:Int) - 1)],σ)/\SpI σ n (n - 1) ws/\cut c s=ws++[r]:=by
 have hn1:0<n:=by
  have:=JN c s;rw [<-hn];exact List.length_pos_iff.2 this
 have hle:=GX c s
 obtain ⟨e,vs',σ,q1,q2,q3⟩:=Bl (P:=t67_0 call k) (Inv:=λq v σ=>∃ (i:Nat) (r:B) (ws:List B),q+i=n/\i<n/\v=[.str r,.str [c],.int .i64 0,.int .i64 ((n:Int) - 1),.ref 0 0 0 n (some n),.int .i64 (i:Int)]/\SpI σ n i ws/\cut c s=ws++cut c r/\r.length<3000000)
  (Q:=λy=>y.1=.exit 0/\∃ r ws,y.2.1=[.str r,.ref 0 0 0 n (some n),.int .i64 ((n:Int) - 1)]/\SpI y.2.2 n (n - 1) ws/\cut c s=ws++[r])
  (by
    rintro q v σ ⟨i,r,ws,hqi,hin,rfl,hS,hc,hr⟩
    have hg:=hS.g;have hcl:(cut c r).length=n - i:=by
     have:=congrArg List.length hc;rw [hn,List.length_append,hS.l] at this;omega
    have hx:=λτ=>h r [c] τ (by omega)
    generalize hw:t67_0 call k [.str r,.str [c],.int .i64 0,.int .i64 ((n:Int) - 1),.ref 0 0 0 n (some n),.int .i64 (i:Int)] σ=w;unfold t67_0 at hw;by_cases hi:i<n - 1
    ·have hi':=eq_true (show (i:Int)<(n:Int) - 1 by omega);rcases Ox c r 0 with ⟨f1,f2⟩ | ⟨m,f1,f2,f3⟩
     ·rw [f2] at hcl;simp at hcl;omega
     ·rw [Nat.zero_add] at f1;rw [f1] at hx;have hm':=eq_false (show ¬(m:Int)<0 by omega);have hst:=λ(K:St->Option (AEx×List V×St))=>XP (sz:=1) (off:=0) (n:=i) (b:=0) (ver:=0) (o:=0) (len:=n) (cap:=some n) (v:=.str (r.take m)) (by omega) hg (by rw [List.length_append,Ky,hS.l,List.length_replicate];omega) K
      have e1:(m:Int)+0=((m:Nat):Int):=by omega
      have e2:(m:Int)+((0+1:Nat):Int)=((m+1:Nat):Int):=by omega
      have e3:m - 0=m:=rfl;simp (disch:=try exact dD _) only [↓reduceIte,↓rK,rO,hi',hx,hm',e1,e3,hst,e2] at hw;refine .inl ⟨q - 1,_,_,by omega,hw.symm,i+1,r.drop (m+1),ws++[r.take m],by omega,by omega,rfl,hS.put hin _ (by omega),?_,by rw [List.length_drop];omega⟩;rw [hc,f3];simp
    ·have he:i=n - 1:=by omega
     have hi':=eq_false (show ¬(i:Int)<(n:Int) - 1 by omega);simp (disch:=try exact dD _) only [↓reduceIte,↓rK,rO,hi'] at hw;have hone:cut c r=[r]:=by
      rcases Ox c r 0 with ⟨f1,f2⟩ | ⟨m,f1,f2,f3⟩
      ·exact f2
      ·rw [f3,List.length_cons] at hcl;have:=List.length_pos_iff.2 (JN c (r.drop (m+1)));omega
     refine .inr ⟨_,_,σ,hw.symm,(by intro h;cases h),rfl,r,ws,?_,by rw [<-he];exact hS,by rw [hc,hone]⟩;rw [show (i:Int)=(n:Int) - 1 by omega])
  n k [.str s,.str [c],.int .i64 0,.int .i64 ((n:Int) - 1),.ref 0 0 0 n (some n),.int .i64 0] τ hk ⟨0,s,[],by omega,hn1,rfl,h0,rfl,hs⟩
 obtain ⟨q3,r,ws,q4,q5,q6⟩:=q3;simp only at q3 q4 q5;subst q3 q4;exact ⟨σ,r,ws,q1,q5,q6⟩
theorem cO {call:SS.Call} {k:Nat} (h: ∀ (s t:B) τ,s.length<4000000->call 92 [.str s,.str t] τ=some (.int .i64 (Dm t s 0),τ)) (h2: ∀ (s:B) (c:UInt8) τ,call 91 [.str s,.str [c]] τ=some (.int .i64 (D3 (by8 c) s:Int),τ)) (s:B) (c:UInt8) (hs:s.length<3000000) (hk:s.length+2<k) :
 ∃ v σ,t67 call k [.str s,.str [c],.int .i64 0,.int .i64 (-1)] .empty=some (v,σ)/\Bn env σ v ((AA AC).enc (cut c s)):=by
 have hle:=GX c s;have hct:=R8 c s;obtain ⟨n,hn⟩: ∃ n,(cut c s).length=n:=⟨_,rfl⟩
 have hn1:0<n:=by
  have:=JN c s;rw [<-hn];exact List.length_pos_iff.2 this
 have h2':=λτ=>h2 s c τ
 have h0:SpI (St.empty.new (.blk (List.replicate n (V.str [])) 9 0 false)) n 0 []:=⟨by simp (disch:=decide) [St.zAe,BD,rows],rfl,by rw [Aa];omega⟩
 obtain ⟨σ,r,ws,g1,g2,g3⟩:=tT h s c hs n hn (k:=k) (by omega) _ h0;have hg:=g2.g;have hst:=λ(K:St->Option (AEx×List V×St))=>XP (sz:=1) (off:=0) (n:=n - 1) (b:=0) (ver:=0) (o:=0) (len:=n) (cap:=some n) (v:=.str r) (by omega) hg (by rw [List.length_append,Ky,g2.l,List.length_replicate];omega) K
 have hmk:=λ(τ:St) (K:V->St->Option (AEx×List V×St))=>nM n (by omega) τ K
 have e1:(D3 (by8 c) s:Int)+1=(n:Int):=by omega
 have e2:=eq_false (show ¬((s.length:Nat):Int)+1<(n:Int) by omega);have e3:(n:Int) - 1=((n - 1:Nat):Int):=by omega
 have e4:((n - 1:Nat):Int)+1=(n:Int):=by omega
 have e5:=eq_false (show ¬(-1:Int)=0 by omega);have e6:=eq_true (show (-1:Int)<0 by omega);have e7:=eq_false (show ¬([c]:B)=[] by simp);rw [e3] at g1;have hsl:=λτ=>tH hn1 0 τ
 generalize hw:t67 call k [.str s,.str [c],.int .i64 0,.int .i64 (-1)] .empty=w;unfold t67 t67_2 t67_1 at hw;simp (disch:=try exact dD _) only [↓reduceIte,↓rK,rO,AL,e5,e6,e7,h2',e1,e2,FK,hmk,e3,g1,↓BA,BA,hst,e4,hsl] at hw;rw [g3];exact ⟨_,_,hw.symm,tQ g2 hn1 (by omega)⟩
theorem tU {call:SS.Call} {k:Nat} (h: ∀ (s:B) (c:UInt8) τ,s.length<1900000->call 67 [.str s,.str [c],.int .i64 0,.int .i64 (-1)] τ=some ((AA AC).enc (cut c s),τ)) (s:B) (c:UInt8) (hs:s.length<1900000) (τ:St):t42 call k [.str s,.str [c]] τ=some ((AA AC).enc (cut c s),τ):=by
 have h':=λτ=>h s c τ hs
 rw [show (-1:Int)=Int.negSucc 0 from rfl] at h';unfold t42;simp (disch:=try exact dD _) only [↓rK,rO,AL,h']
theorem xX {R:Type} {l:List B} {n:Nat} {σ:St} (hn:n<l.length) (K:V->Option R):AZ 1 (.lst (l.map V.str) false) (n:Int) 0 σ K=K (.str l[n]) :=
 Ww (x:=.str l[n]) (by rw [List.getElem?_map,List.getElem?_eq_getElem hn];rfl) rfl rfl rfl K
theorem xW {R:Type} (l:List B) (K:Int->Option R):lnK (.lst (l.map V.str) false) K=K (l.length:Int):=by rw [Wz,List.length_map]
def DF (m:AQ) (ws:List B):List Int:=(m.procs.zip ws).map λp=>find p.2 p.1.locs
theorem Tf (m:AQ) (ws:List B) (i:Nat) (h1:i<m.procs.length) (h2:i<ws.length):(DF m ws).take (i+1)=(DF m ws).take i++[find ws[i] m.procs[i].locs]:=by
 have hl:i<(DF m ws).length:=by unfold DF;rw [List.length_map,List.length_zip];omega
 have e:(DF m ws)[i]=find ws[i] m.procs[i].locs:=by simp [DF]
 rw [List.take_succ_eq_append_getElem hl,e]
theorem pH {call:SS.Call} (h: ∀ (l:List B) (s:B) τ,l.length<1000000->call 43 [(AA AC).enc l,.str s] τ=some (.int .i64 (find s l),τ)) {k:Nat} (m:AQ) (t:B) (ws:List B) (hm:Ae m) (hw:m.procs.length<=ws.length) (hk:m.procs.length<k) (τ:St) {xl xv:V} (hI:SI τ m xl xv [] []) :
 ∃ σ xl',Ai (t21_0 call k) k [.str t,.ptr 0 0 0,.ptr 1 0 0,(AA AC).enc ws,.ptr 2 0 0,(AA BH).enc m.procs,.int .i64 (m.procs.length:Int),.int .i64 0] τ=some (.exit 0,[.str t,.ptr 0 0 0,.ptr 1 0 0,(AA AC).enc ws,.ptr 2 0 0],σ)/\SI σ m xl' xv (DF m ws) []:=by
 have hlen:=hm.procs;have hil:(DF m ws).length=m.procs.length:=by unfold DF;rw [List.length_map,List.length_zip];omega
 obtain ⟨e,vs',σ,q1,q2,q3⟩:=Bl (P:=t21_0 call k) (Inv:=λr v σ=>∃ (i:Nat) (xl':V),r+i=m.procs.length/\v=[.str t,.ptr 0 0 0,.ptr 1 0 0,(AA AC).enc ws,.ptr 2 0 0,(AA BH).enc m.procs,.int .i64 (m.procs.length:Int),.int .i64 (i:Int)]/\SI σ m xl' xv ((DF m ws).take i) [])
  (Q:=λy=>y.1=.exit 0/\y.2.1=[.str t,.ptr 0 0 0,.ptr 1 0 0,(AA AC).enc ws,.ptr 2 0 0]/\∃ xl',SI y.2.2 m xl' xv (DF m ws) [])
  (by
    rintro r v σ ⟨i,xl',hri,rfl,hS⟩
    generalize hw:t21_0 call k [.str t,.ptr 0 0 0,.ptr 1 0 0,(AA AC).enc ws,.ptr 2 0 0,(AA BH).enc m.procs,.int .i64 (m.procs.length:Int),.int .i64 (i:Int)] σ=w;unfold t21_0 at hw;by_cases hi:i<m.procs.length
    ·have hi':=eq_true (show (i:Int)<(m.procs.length:Int) by omega);have hiw:i<ws.length:=by omega
     have hn:=hS.n;have h2:=(hm.proc _ (List.getElem_mem hi)).2.1;obtain ⟨σ2,hσ2⟩: ∃ σ2,σ2=(σ.new (.blk [.str [],.nilS] 43 0 false)).put σ.n (.blk [.str m.procs[i].name,(AA AC).enc m.procs[i].locs] 43 0 false):=⟨_,rfl⟩
     have far: ∀ c,c<σ.n->σ2.get c=σ.get c:=λc hc=>by rw [hσ2,St.zAg,if_neg (by omega),St.zAe,if_neg (by omega)]
     have at2:σ2.get σ.n=some (.blk [.str m.procs[i].name,(AA AC).enc m.procs[i].locs] 43 0 false):=by rw [hσ2,St.zAg,if_pos rfl]
     have n2:σ2.n=σ.n+1:=by rw [hσ2,A9,Aa]
     have hS2:SI σ2 m xl' xv ((DF m ws).take i) []:=by
      obtain ⟨bl,bv,e1,e2,d1,d2,d3,d4,d5⟩:=hS.far;exact ⟨by rw [far 0 (by omega)];exact hS.z,by rw [far 1 (by omega)];exact hS.r,by rw [far 2 (by omega)];exact hS.s,by omega,bl,bv,e1.of (λhc=>far _ hc) (by omega),e2.of (λhc=>far _ hc) (by omega),d1,d2,d3⟩
     have p1:=λτ=>h m.procs[i].locs ws[i] τ h2
     have hz2:=hS2.s;have hx:xl'.one=true:=by obtain ⟨_,_,q1,_⟩:=hS.ls;exact q1.one
     obtain ⟨x',σ',a1,a2,a3,a4⟩:=hS2.loc (by rw [List.length_take];omega) (find ws[i] m.procs[i].locs);have hstp:(storeAt env 43 (.ptr σ.n 0 0) (BH.enc m.procs[i]) (σ.new (.blk [.str [],.nilS] 43 0 false)))=some σ2:=by rw [hσ2];exact Ay EO (Nat.beq_refl _) rfl rfl (by simp [OH,BO,Pn,Ge])
     simp (disch:=try exact dD _) only [↓reduceIte,↓rK,rO,Nat.reduceAdd,hi',hstp,hz2,at2,p1,↓BA,BA,hx,a1,a2] at hw;rw [<-Tf m ws i hi hiw] at a4;exact .inl ⟨r - 1,_,_,by omega,hw.symm,i+1,x',by omega,rfl,a4⟩
    ·have he:i=m.procs.length:=by omega
     subst he;have hi':=eq_false (show ¬(m.procs.length:Int)<(m.procs.length:Int) by omega);simp (disch:=try exact dD _) only [↓reduceIte,↓rK,rO,hi'] at hw;rw [List.take_of_length_le (by omega)] at hS;exact .inr ⟨_,_,σ,hw.symm,(by intro h;cases h),rfl,rfl,xl',hS⟩)
  m.procs.length k [.str t,.ptr 0 0 0,.ptr 1 0 0,(AA AC).enc ws,.ptr 2 0 0,(AA BH).enc m.procs,.int .i64 (m.procs.length:Int),.int .i64 0] τ hk ⟨0,xl,by omega,rfl,hI⟩
 obtain ⟨q3,q4,xl',q5⟩:=q3;simp only at q3 q4 q5;subst q3 q4;exact ⟨σ,xl',q1,q5⟩
theorem pM {call:SS.Call} {num:B->Int} {Nu:B->Prop} (h: ∀ (s:B) τ,Nu s->∃ e τ',call 44 [.str s] τ=some (.tup [.int .i64 (num s),e],τ')/\e.one=true/\CS τ τ') {k:Nat} (m:AQ) (t:B) (ws:List B) (hws: ∀ w∈ws,Nu w) (hw:ws.length<1000000) (hk:ws.length<k) (τ:St) {xl xv:V} {ls:List Int} (hI:SI τ m xl xv ls []) :
 ∃ σ xv',Ai (t21_1 call k) k [.str t,.ptr 0 0 0,.ptr 1 0 0,.ptr 2 0 0,.lst (ws.map V.str) false,.int .i64 (ws.length:Int),.int .i64 0] τ=some (.exit 2,[.str t,.ptr 0 0 0,.ptr 1 0 0,.ptr 2 0 0],σ)/\SI σ m xl xv' ls (ws.map num):=by
 obtain ⟨e,vs',σ,q1,q2,q3⟩:=Bl (P:=t21_1 call k) (Inv:=λr v σ=>∃ (i:Nat) (xv':V),r+i=ws.length/\v=[.str t,.ptr 0 0 0,.ptr 1 0 0,.ptr 2 0 0,.lst (ws.map V.str) false,.int .i64 (ws.length:Int),.int .i64 (i:Int)]/\SI σ m xl xv' ls ((ws.take i).map num))
  (Q:=λy=>y.1=.exit 2/\y.2.1=[.str t,.ptr 0 0 0,.ptr 1 0 0,.ptr 2 0 0]/\∃ xv',SI y.2.2 m xl xv' ls (ws.map num))
  (by
    rintro r v σ ⟨i,xv',hri,rfl,hS⟩
    generalize hw:t21_1 call k [.str t,.ptr 0 0 0,.ptr 1 0 0,.ptr 2 0 0,.lst (ws.map V.str) false,.int .i64 (ws.length:Int),.int .i64 (i:Int)] σ=w;unfold t21_1 at hw;by_cases hi:i<ws.length
    ·have hi':=eq_true (show (i:Int)<(ws.length:Int) by omega);obtain ⟨er,σ2,p1,hex,x2,x1⟩:=h ws[i] σ (hws _ (List.getElem_mem hi));have hS:SI σ2 m xl xv' ls ((ws.take i).map num):=by
      have hn:=hS.n;obtain ⟨bl,bv,e1,e2,d1,d2,d3,d4,d5⟩:=hS.far;exact ⟨by rw [x1 0 (by omega)];exact hS.z,by rw [x1 1 (by omega)];exact hS.r,by rw [x1 2 (by omega)];exact hS.s,by omega,bl,bv,e1.of (λhc=>x1 _ hc) x2,e2.of (λhc=>x1 _ hc) x2,d1,d2,d3⟩
     have hs:=hS.s;have hx:xv'.one=true:=by obtain ⟨_,_,_,q1,_⟩:=hS.ls;exact q1.one
     have hld:=λ(τ:St) (K:V->Option (AEx×List V×St))=>xX (σ:=τ) hi K
     obtain ⟨x',σ',a1,a2,a3,a4⟩:=hS.val (by rw [List.length_map,List.length_take];omega) (num ws[i]);simp (disch:=try exact dD _) only [↓hld,↓reduceIte,↓rK,rO,Nat.reduceAdd,hi',p1,hs,↓BA,BA,hx,a1,a2] at hw;have e:(ws.take i).map num++[num ws[i]]=(ws.take (i+1)).map num:=by rw [List.take_succ_eq_append_getElem hi,List.map_append];rfl
     rw [e] at a4;exact .inl ⟨r - 1,_,_,by omega,hw.symm,i+1,x',by omega,rfl,a4⟩
    ·have he:i=ws.length:=by omega
     subst he;have hi':=eq_false (show ¬(ws.length:Int)<(ws.length:Int) by omega);simp (disch:=try exact dD _) only [↓reduceIte,↓rK,rO,hi'] at hw;rw [List.take_length] at hS;exact .inr ⟨_,_,σ,hw.symm,(by intro h;cases h),rfl,rfl,xv',hS⟩)
  ws.length k [.str t,.ptr 0 0 0,.ptr 1 0 0,.ptr 2 0 0,.lst (ws.map V.str) false,.int .i64 (ws.length:Int),.int .i64 0] τ hk ⟨0,xv,by omega,rfl,hI⟩
 obtain ⟨q3,q4,xv',q5⟩:=q3;simp only at q3 q4 q5;subst q3 q4;exact ⟨σ,xv',q1,q5⟩
theorem KS {τ:St} {a v u:V} (ha:a.kind=0) (h:frz env τ 64 v=some u) (hk:v.kind≠0):Bd env τ [a,v]=some [a,u]:=by
 have e:Bd env τ [a,v]=(match (bif Nat.beq a.kind 0 then some a else frz env τ D4 a),Bd env τ [v] with | some x,some xs=>some (x :: xs) | _,_=>none):=rfl;have e2:Bd env τ [v]=(match (bif Nat.beq v.kind 0 then some v else frz env τ D4 v),Bd env τ [] with | some x,some xs=>some (x :: xs) | _,_=>none):=rfl;have hb:Nat.beq v.kind 0=false:=by rw [Gd];exact decide_eq_false hk
 have h:frz env τ D4 v=some u:=h;rw [e,e2,ha,hb,h];rfl
theorem SI.kind {τ:St} {m:AQ} {xl xv:V} {ls vs:List Int} (h:SI τ m xl xv ls vs):(V.agg [xl,xv]).kind≠0:=by
 obtain ⟨_,_,e1,_⟩:=h.ls;have:=Il e1;rw [E5,BM];omega
structure Na (call:SS.Call) (num:B->Int) (Nu:B->Prop):Prop where
 model: ∀ (m:AQ) τ,Ae m->call 36 [AP.enc m] τ=some (.bool m.right,τ)
 right: ∀ (m:AQ) (v:V) (s:BG) τ,Bd env τ [AP.enc m,v]=some [AP.enc m,Af.enc s]->Ae m->BX s->call 12 [AP.enc m,v] τ=some (.bool (m.right&&m.fits s),τ)
 print: ∀ (m:AQ) (v:V) (s:BG) τ,Bd env τ [AP.enc m,v]=some [AP.enc m,Af.enc s]->Ae m->BX s->call 11 [AP.enc m,v] τ=some (.str (Bu m s),τ)
 split: ∀ (s:B) (c:UInt8) τ,s.length<1900000->call 42 [.str s,.str [c]] τ=some ((AA AC).enc (cut c s),τ)
 index: ∀ (l:List B) (s:B) τ,l.length<1000000->call 43 [(AA AC).enc l,.str s] τ=some (.int .i64 (find s l),τ)
 atoi: ∀ (s:B) τ,Nu s->∃ e τ',call 44 [.str s] τ=some (.tup [.int .i64 (num s),e],τ')/\e.one=true/\CS τ τ'
theorem pG {call:SS.Call} {num:B->Int} {Nu:B->Prop} (h:Na call num Nu) {k:Nat} {m:AQ} {t:B} {σ:St} {xl xv:V} {s:BG} (hm:Ae m) (hs:BX s) (hr:m.right=true) (hS:SI σ m xl xv s.locs s.vals) :
 ∃ v b σ',t21_2 call k [.str t,.ptr 0 0 0,.ptr 1 0 0,.ptr 2 0 0] σ=some (.ret,[v,.bool b],σ')/\v.kind≠0/\frz env σ' 63 v=some (Af.enc (if m.fits s&&decide (Bu m s=t) then s else ⟨[],[]⟩))/\b=(m.fits s&&decide (Bu m s=t)):=by
 have hz:=hS.z;have hr1:=hS.r;have hs2:=hS.s
 have hfz:Bd env σ [AP.enc m,.agg [xl,xv]]=some [AP.enc m,Af.enc s]:=KS (AP.zero m) (TQ hS (n:=63) (by omega)) hS.kind;have p1:=h.right m _ s σ hfz hm hs;have p2:=h.print m _ s σ hfz hm hs;have hst0:=Hu 1 σ .nilS .nilS .nilS .nilS rfl rfl hr1;have hone:xl.one=true/\xv.one=true:=by obtain ⟨_,_,q1,q2,_⟩:=hS.ls;exact ⟨q1.one,q2.one⟩
 have hst1:=Hu 1 σ .nilS .nilS xl xv hone.1 hone.2 hr1;have e0:V.agg [(AA Az).enc m.vars,(AA BH).enc m.procs,(AA BF).enc m.trans]=AP.enc m:=rfl;simp only [Cj] at hz;generalize hw:t21_2 call k [.str t,.ptr 0 0 0,.ptr 1 0 0,.ptr 2 0 0] σ=w;unfold t21_2 at hw;rw [hr,Bool.true_and] at p1;cases hf:m.fits s with
 | false =>
  rw [hf] at p1;simp (disch:=try exact dD _) only [↓reduceIte,↓rK,rO,Nat.reduceAdd,hz,hs2,e0,p1,hst0] at hw;exact ⟨_,_,_,hw.symm,by decide,rfl,rfl⟩
 | true =>
  rw [hf] at p1;by_cases hd:Bu m s=t
  ·have hd':=eq_true hd;simp (disch:=try exact dD _) only [↓reduceIte,↓rK,rO,Nat.reduceAdd,hz,hs2,e0,p1,p2,hd',hst1] at hw;refine ⟨_,_,_,hw.symm,hS.kind,?_,by rw [decide_eq_true hd];rfl⟩;rw [decide_eq_true hd];obtain ⟨bl,bv,e1,e2,d1,d2,d3⟩:=hS.ls;have o: ∀ {ty sz v n cs b},Lst σ ty sz v n cs b->3<=b->Lst (σ.put 1 (.blk [xl,xv] 35 0 false)) ty sz v n cs b:=λh hb=>h.of (λ_=>by rw [St.zAg,if_neg (by omega)]) (Nat.le_refl _)
   show (match [xl,xv].mapM (frz env _ (61+1)) with | some ys=>some (V.agg ys) | none=>none)=_;rw [List.mapM_cons,List.mapM_cons,List.mapM_nil,En (by omega) (o e1 d1),En (by omega) (o e2 d2)];rfl
  ·have hd':=eq_false hd;simp (disch:=try exact dD _) only [↓reduceIte,↓rK,rO,Nat.reduceAdd,hz,hs2,e0,p1,p2,hd',hst0] at hw;refine ⟨_,_,_,hw.symm,by decide,?_,by rw [decide_eq_false hd];rfl⟩;rw [decide_eq_false hd];rfl
theorem uB {call:SS.Call} {num:B->Int} {Nu:B->Prop} (h:Na call num Nu) {k:Nat} (m:AQ) (t:B) (hm:Ae m) (ht:t.length<1200000) (hnu:m.right=true->(cut 32 t).length=m.procs.length+m.vars.length->∀ w∈(cut 32 t).drop m.procs.length,Nu w) (hk:1000000<=k) :
 ∃ v σ,t21 call k [AP.enc m,.str t] .empty=some (v,σ)/\Bn env σ v ((DV Af BB).enc (Dc num m t)):=by
 have l1:=hm.procs;have l2:=hm.vars
 have hle:=GX 32 t;have p1:=λτ=>h.model m τ hm
 have p0:=λτ=>h.split t 32 τ (by omega)
 have e0:V.agg [(AA Az).enc m.vars,(AA BH).enc m.procs,(AA BF).enc m.trans]=AP.enc m:=rfl;have hst0:=Hu 1 ((St.empty.new (.blk (V.cellsF (AP.enc m)) 30 0 false)).new (.blk [.nilS,.nilS] 35 0 false)) .nilS .nilS .nilS .nilS rfl rfl (by simp (disch:=decide) [St.zAe,Aa,BD]);simp only [Cj] at hst0;generalize hw:t21 call k [AP.enc m,.str t] .empty=w;unfold t21 at hw;unfold Dc;cases hr:m.right with
 | false =>
  rw [hr] at p1;simp (disch:=try exact dD _) only [↓reduceIte,↓rK,rO,AL,Nat.reduceAdd,Nat.reduceEqDiff,p0,e0,p1,hst0] at hw;exact ⟨_,_,hw.symm,.inr ⟨(by intro h;cases h),rfl⟩⟩
 | true =>
  rw [hr] at p1;by_cases hl:(cut 32 t).length=m.procs.length+m.vars.length
  ·have hl':=eq_true (show ((cut 32 t).length:Int)=(m.procs.length:Int)+(m.vars.length:Int) by omega);have h0:SI (((St.empty.new (.blk (V.cellsF (AP.enc m)) 30 0 false)).new (.blk [.nilS,.nilS] 35 0 false)).new (.blk [.nilS,.nilS] 35 0 false)) m .nilS .nilS [] [] :=
    ⟨by simp (disch:=decide) [St.zAe,Aa,BD],by simp (disch:=decide) [St.zAe,Aa,BD],by simp (disch:=decide) [St.zAe,Aa,BD],by rw [Aa,Aa,Aa,BD];omega,3,4,C5 _ _ _ _,C5 _ _ _ _,by omega,by omega,by omega⟩
   obtain ⟨σ1,xl,g1,g2⟩:=pH h.index (k:=k) m t (cut 32 t) hm (by omega) (by omega) _ h0;have hdl:((cut 32 t).drop m.procs.length).length=m.vars.length:=by rw [List.length_drop];omega
   obtain ⟨σ2,xv,f1,f2⟩:=pM h.atoi (k:=k) m t ((cut 32 t).drop m.procs.length) (hnu hr hl) (by omega) (by omega) σ1 g2;have hsm:BX (Es num m t):=by
    refine ⟨?_,?_⟩
    ·show (DF m (cut 32 t)).length<1000000;unfold DF;rw [List.length_map,List.length_zip];omega
    ·show (((cut 32 t).drop m.procs.length).map num).length<1000000;rw [List.length_map];omega
   obtain ⟨v,b,σ3,e1,e2,e3,e4⟩:=pG h (k:=k) (t:=t) (s:=Es num m t) hm hsm hr f2;have hz:=g2.z;have hsl:=λτ=>QJ (cut 32 t) (JN 32 t) m.procs.length (by omega) τ
   simp only [Cj] at g1 hz;unfold t21_3 at hw;simp (disch:=try exact dD _) only [↓reduceIte,↓rK,rO,AL,Nat.reduceAdd,Nat.reduceEqDiff,p0,e0,p1,hl',g1,hz,hsl,xW,f1,e1] at hw;refine ⟨_,_,hw.symm,.inr ⟨by show max v.kind _≠0;omega,?_⟩⟩;subst e4;rw [decide_eq_true hl];show (match [v,V.bool _].mapM (frz env σ3 63) with | some ys=>some (V.tup ys) | none=>none)=_;rw [List.mapM_cons,List.mapM_cons,List.mapM_nil,e3];cases (m.fits (Es num m t)&&decide (Bu m (Es num m t)=t))<;>rfl
  ·have hl':=eq_false (show ¬((cut 32 t).length:Int)=(m.procs.length:Int)+(m.vars.length:Int) by omega);simp (disch:=try exact dD _) only [↓reduceIte,↓rK,rO,AL,Nat.reduceAdd,Nat.reduceEqDiff,p0,e0,p1,hl',hst0] at hw;rw [decide_eq_false hl];exact ⟨_,_,hw.symm,.inr ⟨(by intro h;cases h),rfl⟩⟩
theorem uG {m:AQ} {s:BG} (hr:m.right=true) (hf:m.fits s=true):(Bu m s).length<990000:=by
 obtain ⟨f1,f2,f3,f4⟩:=(Em m s).1 hf;obtain ⟨r1,r2,r3,r4,r5,_⟩:=Gg hr;unfold Bu;rw [hr,hf];have:=kT (Bb m s++s.vals.map BK) 8 (by
  intro a ha;rcases List.mem_append.1 ha with ha | ha
  ·obtain ⟨i,hi,rfl⟩:=List.getElem_of_mem ha;have hi1:i<m.procs.length:=by rw [FN m s f1] at hi;exact hi
   obtain ⟨n,hn,hlt,e,hw⟩:=Jg hr hf i hi1 (by omega);rw [List.getElem?_eq_getElem hi] at e;rw [Option.some.inj e];exact Ii hw
  ·obtain ⟨n,hn,rfl⟩:=List.mem_map.1 ha;obtain ⟨i,hi,rfl⟩:=List.getElem_of_mem hn;obtain ⟨u0,u1⟩:=f4 i (by omega) hi;obtain ⟨_,v1,v2,v3,v4⟩:=r1 _ (List.getElem_mem (show i<m.vars.length by omega));have:=IW s.vals[i] (by omega) (by omega);omega)
 rw [List.length_append,FN m s f1,List.length_map] at this;show (C9 [32] (Bb m s++s.vals.map BK)).length<_;omega
theorem M5 (s:BG) (b:Nat) (σ:St) (hg:σ.get b=some (.blk [.nilS,.nilS] 35 0 false)):storeAt env 35 (.ptr b 0 0) (Af.enc s) σ=some (σ.put b (.blk [(AA AJ).enc s.locs,(AA AJ).enc s.vals] 35 0 false)):=Ef K7 hg rfl rfl (by simp [Af,V.cells,BO,Ge])
def Dr:AQ:=⟨[⟨[120],-5,5,0⟩],[⟨[112],[[97],[98]]⟩],[]⟩
def Cs:BG:=⟨[1],[-3]⟩
theorem WC:Dr.right=true:=by decide +kernel
theorem WA:Dr.fits Cs=true:=by decide +kernel
theorem WB:Bu Dr Cs=[98,32,45,51]:=by decide +kernel
theorem QZ:Ae Dr:=by
 refine ⟨by decide,?_,by decide,?_,by decide,?_⟩
 all_goals (intro x hx;simp [Dr] at hx)
 ·subst hx;decide
 ·subst hx;decide
theorem wC (call:SS.Call) (k:Nat): ∃ v σ,t26 call k [] .empty=some (v,σ)/\Bn env σ v (AP.enc Dr):=by
 have b1: ∀ σ,Cq env 26 1 [(0,V.agg [V.str [120],V.int .i64 (-5),V.int .i64 5,V.int .i64 0])] σ=some (.lst [V.agg [V.str [120],V.int .i64 (-5),V.int .i64 5,V.int .i64 0]] true,σ):=λσ=>by kernel_rfl
 have b2: ∀ σ,Cq env 37 2 [(0,V.str [97]),(1,V.str [98])] σ=some (.lst [V.str [97],V.str [98]] true,σ):=λσ=>by kernel_rfl
 have b3: ∀ σ,Cq env 27 1 [(0,V.agg [V.str [112],.lst [V.str [97],V.str [98]] true])] σ=some (.lst [V.agg [V.str [112],.lst [V.str [97],V.str [98]] true]] true,σ):=λσ=>by kernel_rfl
 have hst: ∀ (σ:St) (x y:V),x.one=true->y.one=true->σ.get 0=some (.blk [.nilS,.nilS,.nilS] 30 0 false)->storeAt env 30 (.ptr 0 0 0) (.agg [x,y,.nilS]) σ=some (σ.put 0 (.blk [x,y,.nilS] 30 0 false)):=λσ x y hx hy hg=>Ef Jv hg rfl rfl (by simp [V.cells,BO,hx,hy,Pm])
 have hs:=hst (St.empty.new (.blk [.nilS,.nilS,.nilS] 30 0 false)) (.lst [V.agg [V.str [120],V.int .i64 (-5),V.int .i64 5,V.int .i64 0]] true) (.lst [V.agg [V.str [112],.lst [V.str [97],V.str [98]] true]] true) rfl rfl (by simp (disch:=decide) [St.zAe,BD]);have em:(Int.negSucc 4:Int)=-5:=rfl;have e0:(Int.ofNat 0:Int)=0:=rfl;have e5:(Int.ofNat 5:Int)=5:=rfl;generalize hw:t26 call k [] .empty=w;unfold t26 at hw;simp (disch:=try exact dD _) only [↓reduceIte,↓rK,rO,AL,Nat.reduceAdd,em,b1,b2,b3,hs] at hw;exact ⟨_,_,hw.symm,.inr ⟨by decide,rfl⟩⟩
structure Qw (call:SS.Call):Prop where
 two: ∀ τ,call 26 [] τ=some (AP.enc Dr,τ)
 parse: ∀ τ,call 21 [AP.enc Dr,.str (Bu Dr Cs)] τ=some (.tup [Af.enc Cs,.bool true],τ)
 print: ∀ (v:V) τ,v.kind≠0->frz env τ 64 v=some (Af.enc Cs)->call 11 [AP.enc Dr,v] τ=some (.str (Bu Dr Cs),τ)
 same: ∀ (v:V) τ,v.kind≠0->frz env τ 64 v=some (Af.enc Cs)->call 18 [Af.enc Cs,v] τ=some (.bool true,τ)
 right: ∀ (v:V) τ,v.kind≠0->frz env τ 64 v=some (Af.enc Cs)->call 12 [AP.enc Dr,v] τ=some (.bool true,τ)
theorem lQ {call:SS.Call} (h:Qw call) (k:Nat): ∃ σ,t6 call k [] .empty=some (.bool true,σ):=by
 have b1: ∀ σ,Cq env 33 1 [(0,V.int .i64 1)] σ=some (.lst [V.int .i64 1] true,σ):=λσ=>by kernel_rfl
 have b2: ∀ σ,Cq env 33 1 [(0,V.int .i64 (-3))] σ=some (.lst [V.int .i64 (-3)] true,σ):=λσ=>by kernel_rfl
 have hs:=Hu 0 (St.empty.new (.blk [.nilS,.nilS] 35 0 false)) .nilS .nilS (.lst [V.int .i64 1] true) (.lst [V.int .i64 (-3)] true) rfl rfl (by simp (disch:=decide) [St.zAe,BD]);have hp:=h.parse;have h2:=h.two
 have k1:=λτ=>h.print (.agg [.lst [V.int .i64 1] true,.lst [V.int .i64 (-3)] true]) τ (by decide) rfl
 have k2:=λτ=>h.same (.agg [.lst [V.int .i64 1] true,.lst [V.int .i64 (-3)] true]) τ (by decide) rfl
 have k3:=λτ=>h.right (.agg [.lst [V.int .i64 1] true,.lst [V.int .i64 (-3)] true]) τ (by decide) rfl
 rw [WB] at hp k1;have ht:=M5 Cs;have hsC:[(AA AJ).enc Cs.locs,(AA AJ).enc Cs.vals]=[.lst [V.int .i64 1] false,.lst [V.int .i64 (-3)] false]:=rfl;have em:(Int.negSucc 2:Int)=-3:=rfl;have e1:(Int.ofNat 1:Int)=1:=rfl;generalize hw:t6 call k [] .empty=w;unfold t6 at hw;simp (disch:=first | omega | (simp (disch:=omega) only [St.zAg,St.zAe,Aa,A9,BD,if_neg,if_true,eq_self];done) | first | exact dD _ | assumption) only [↓reduceIte,↓rK,rO,AL,Nat.reduceAdd,Nat.reduceEqDiff,em,b1,b2,hs,h2,hp,ht,k1,k2,k3] at hw;exact ⟨_,hw.symm⟩
theorem aM {call:SS.Call} {k:Nat} (a b:List Int) (ha:a.length<1000000) (hb:b.length<1000000) (hk:a.length<k) (τ:St) :
 t41 call k [(AA AJ).enc a,(AA AJ).enc b] τ=some (.bool (decide (a=b)),τ):=by
 generalize hw:t41 call k [(AA AJ).enc a,(AA AJ).enc b] τ=w;unfold t41 at hw;by_cases hl:a.length=b.length
 ·have hl':=eq_true (show (a.length:Int)=(b.length:Int) by omega);have hbd: ∀ (i:Nat) (hi:i<a.length),t41_0 call k [(AA AJ).enc a,(AA AJ).enc b,.int .i64 (i:Int)] τ=(bif decide (a[i]=b[i]'(by omega)) then some (.norm,[(AA AJ).enc a,(AA AJ).enc b,.int .i64 ((i+1:Nat):Int)],τ) else some (.ret,[.bool false],τ)):=by
   intro i hi;have hi':=eq_true (show (i:Int)<(a.length:Int) by omega);have h2:i<b.length:=by omega
   unfold t41_0;by_cases d:a[i]=b[i]
   ·have d':=eq_true d;rw [decide_eq_true d];simp (disch:=try exact dD _) only [↓reduceIte,↓rK,rO,hi',d',cond_true];rfl
   ·have d':=eq_false d;rw [decide_eq_false d];simp (disch:=try exact dD _) only [↓reduceIte,↓rK,rO,hi',d',cond_false]
  obtain ⟨τ2,g1,rfl⟩:=D6 (P:=t41_0 call k) (I:=λσ=>σ=τ) (mk:=λi=>[(AA AJ).enc a,(AA AJ).enc b,.int .i64 (i:Int)]) (fin:=[]) (res:=[.bool false]) (id:=0) (n:=a.length)
   (ok:=λi=>if h:i<a.length then decide (a[i]=b[i]'(by omega)) else true)
   (by
     rintro i σ hi rfl ho
     simp only [dif_pos hi] at ho;exact ⟨σ,by rw [hbd i hi,ho];rfl,rfl⟩)
   (by
     rintro i σ hi rfl ho
     simp only [dif_pos hi] at ho;exact ⟨σ,by rw [hbd i hi,ho];rfl,rfl⟩)
   (by
     rintro σ rfl
     refine ⟨σ,?_,rfl⟩;have hi':=eq_false (show ¬(a.length:Int)<(a.length:Int) by omega);unfold t41_0;simp (disch:=try exact dD _) only [↓reduceIte,↓rK,rP,hi'])
   a.length 0 k τ (by omega) hk rfl
  have key:DN (λi=>if h:i<a.length then decide (a[i]=b[i]'(by omega)) else true) a.length 0=decide (a=b):=by
   rw [Bool.eq_iff_iff,GS,decide_eq_true_eq];constructor
   ·intro h;refine List.ext_getElem hl λi h1 h2=>?_
    have:=h i (by omega) (by omega);simpa only [dif_pos h1,decide_eq_true_eq] using this
   ·rintro rfl i _ hi
    have hi:i<a.length:=by omega
    simp [hi]
  rw [key,show ((0:Nat):Int)=0 from rfl] at g1;simp (disch:=try exact dD _) only [↓reduceIte,↓rK,rO,hl',g1] at hw;cases hd:decide (a=b) with
  | true =>
   rw [hd] at hw;simp only [rO,cond_true] at hw;unfold t41_1 at hw;simp only [↓rK,rO,AL] at hw;exact hw.symm
  | false =>
   rw [hd] at hw;simp only [rO,AL,cond_false] at hw;exact hw.symm
 ·have hl':=eq_false (show ¬(a.length:Int)=(b.length:Int) by omega);simp (disch:=try exact dD _) only [↓reduceIte,↓rK,rO,AL,hl'] at hw;rw [decide_eq_false (λh=>hl (by rw [h]))];exact hw.symm
theorem sI {call:SS.Call} {k:Nat} (h1: ∀ (a b:List Int) τ,a.length<1000000->b.length<1000000->call 41 [(AA AJ).enc a,(AA AJ).enc b] τ=some (.bool (decide (a=b)),τ)) (a b:BG) (ha:BX a) (hb:BX b) :
 ∃ σ,t19 call k [Af.enc a,Af.enc b] .empty=some (.bool (decide (a=b)),σ):=by
 have q1:=λτ=>h1 a.locs b.locs τ ha.1 hb.1
 have q2:=λτ=>h1 a.vals b.vals τ ha.2 hb.2
 generalize hw:t19 call k [Af.enc a,Af.enc b] .empty=w;unfold t19 at hw;rw [<-VN];cases hd:decide (a.locs=b.locs) with
 | true =>
  rw [hd] at q1;simp (disch:=try exact dD _) only [↓reduceIte,↓rK,rO,AL,Nat.reduceEqDiff,q1,q2] at hw;exact ⟨_,hw.symm⟩
 | false =>
  rw [hd] at q1;simp (disch:=try exact dD _) only [↓reduceIte,↓rK,rO,AL,Nat.reduceEqDiff,q1] at hw;exact ⟨_,hw.symm⟩
theorem rJ {call:SS.Call} {k:Nat} (h1: ∀ (m:AQ) τ,Ae m->call 8 [AP.enc m] τ=some (.bool m.right,τ)) (h2: ∀ (m:AQ) (s:BG) τ,Ae m->BX s->call 38 [AP.enc m,Af.enc s] τ=some (.bool (m.fits s),τ)) (m:AQ) (s:BG) (hm:Ae m) (hs:BX s) :
 ∃ σ,t16 call k [AP.enc m,Af.enc s] .empty=some (.bool (m.right&&m.fits s),σ):=by
 have q1:=λτ=>h1 m τ hm
 have q2:=λτ=>h2 m s τ hm hs
 generalize hw:t16 call k [AP.enc m,Af.enc s] .empty=w;unfold t16 at hw;cases hr:m.right with
 | false =>
  rw [hr] at q1;simp (disch:=try exact dD _) only [↓reduceIte,↓rK,rO,AL,Nat.reduceAdd,Nat.reduceEqDiff,q1] at hw;exact ⟨_,hw.symm⟩
 | true =>
  rw [hr] at q1;simp (disch:=try exact dD _) only [↓reduceIte,↓rK,rO,AL,Nat.reduceAdd,Nat.reduceEqDiff,q1,q2] at hw;exact ⟨_,hw.symm⟩
theorem bM {call:SS.Call} {k:Nat} (m:AQ) (s:BG) (hm:Ae m) (hs:BX s) (hk:m.procs.length<k) (hk2:m.vars.length<k) :
 ∃ σ,t38 call k [AP.enc m,Af.enc s] .empty=some (.bool (m.fits s),σ):=by
 obtain ⟨s1,s2⟩:=hs;have hl1:=hm.procs;have hl2:=hm.vars
 obtain ⟨T,hT⟩: ∃ T,T=(St.empty.new (.blk (V.cellsF (AP.enc m)) 30 0 false)).new (.blk (V.cellsF (Af.enc s)) 35 0 false):=⟨_,rfl⟩
 have z0:T.get 0=some (.blk [(AA Az).enc m.vars,(AA BH).enc m.procs,(AA BF).enc m.trans] 30 0 false):=by rw [hT,<-Cj];simp (disch:=decide) [St.zAe,Aa,BD]
 have z1:T.get 1=some (.blk [(AA AJ).enc s.locs,(AA AJ).enc s.vals] 35 0 false):=by rw [hT,<-Gv];simp (disch:=decide) [St.zAe,Aa,BD]
 simp only [Cj,Gv] at hT;generalize hw:t38 call k [AP.enc m,Af.enc s] .empty=w;unfold t38 at hw;unfold AQ.fits;by_cases c1:s.locs.length=m.procs.length
 ·have c1':=eq_true (show (s.locs.length:Int)=(m.procs.length:Int) by omega);by_cases c2:s.vals.length=m.vars.length
  ·have c2':=eq_true (show (s.vals.length:Int)=(m.vars.length:Int) by omega);have hb: ∀ (i:Nat) (hi:i<m.procs.length),t38_0 call k [.ptr 0 0 0,.ptr 1 0 0,.int .i64 (i:Int)] T=(bif decide (0<=s.locs[i])&&decide (s.locs[i]<m.procs[i].locs.length) then some (.norm,[.ptr 0 0 0,.ptr 1 0 0,.int .i64 ((i+1:Nat):Int)],T) else some (.ret,[.bool false],T)):=by
    intro i hi;have hi':=eq_true (show (i:Int)<(s.locs.length:Int) by omega);unfold t38_0;by_cases d1:s.locs[i]<0
    ·have d1':=eq_true d1;have e:=decide_eq_false (show ¬0<=s.locs[i] by omega);simp (disch:=try exact dD _) only [↓reduceIte,↓rK,rO,hi',z0,z1,d1',e,cond_false]
    ·have d1':=eq_false d1;have e:=decide_eq_true (show 0<=s.locs[i] by omega);by_cases d2:(m.procs[i].locs.length:Int)<=s.locs[i]
     ·have d2':=eq_true d2;have e2:=decide_eq_false (show ¬s.locs[i]<(m.procs[i].locs.length:Int) by omega);simp (disch:=try exact dD _) only [↓reduceIte,↓rK,rO,hi',z0,z1,d1',e,d2',e2,cond_false]
     ·have d2':=eq_false d2;have e2:=decide_eq_true (show s.locs[i]<(m.procs[i].locs.length:Int) by omega);simp (disch:=try exact dD _) only [↓reduceIte,↓rK,rO,hi',z0,z1,d1',e,d2',e2,cond_true];rfl
   obtain ⟨τ,g1,rfl⟩:=D6 (P:=t38_0 call k) (I:=λτ=>τ=T) (mk:=λi=>[.ptr 0 0 0,.ptr 1 0 0,.int .i64 (i:Int)]) (fin:=[.ptr 0 0 0,.ptr 1 0 0]) (res:=[.bool false]) (id:=0) (n:=m.procs.length)
    (ok:=λi=>if h:i<m.procs.length then decide (0<=s.locs[i])&&decide (s.locs[i]<m.procs[i].locs.length) else true)
    (by
      rintro i τ hi rfl ho
      simp only [dif_pos hi] at ho;exact ⟨τ,by rw [hb i hi,ho];rfl,rfl⟩)
    (by
      rintro i τ hi rfl ho
      simp only [dif_pos hi] at ho;exact ⟨τ,by rw [hb i hi,ho];rfl,rfl⟩)
    (by
      rintro τ rfl
      refine ⟨τ,?_,rfl⟩;have hi':=eq_false (show ¬(m.procs.length:Int)<(s.locs.length:Int) by omega);unfold t38_0;simp (disch:=try exact dD _) only [↓reduceIte,↓rK,rO,z1,hi'])
    m.procs.length 0 k T (by omega) hk rfl
   rw [show ((0:Nat):Int)=0 from rfl,LZ (λp:Bi×Int=>decide (0<=p.2)&&decide (p.2<p.1.locs.length)) m.procs s.locs c1 _ (by intro i h1 h2;simp only [dif_pos h1])] at g1;have hb2: ∀ (i:Nat) (hi:i<m.vars.length),t38_1 call k [.ptr 0 0 0,.ptr 1 0 0,.int .i64 (i:Int)] τ=(bif decide (m.vars[i].low<=s.vals[i])&&decide (s.vals[i]<=m.vars[i].high) then some (.norm,[.ptr 0 0 0,.ptr 1 0 0,.int .i64 ((i+1:Nat):Int)],τ) else some (.ret,[.bool false],τ)):=by
    intro i hi;have hi':=eq_true (show (i:Int)<(s.vals.length:Int) by omega);unfold t38_1;by_cases d1:s.vals[i]<m.vars[i].low
    ·have d1':=eq_true d1;have e:=decide_eq_false (show ¬m.vars[i].low<=s.vals[i] by omega);simp (disch:=try exact dD _) only [↓reduceIte,↓rK,rO,hi',z0,z1,d1',e,cond_false]
    ·have d1':=eq_false d1;have e:=decide_eq_true (show m.vars[i].low<=s.vals[i] by omega);by_cases d2:m.vars[i].high<s.vals[i]
     ·have d2':=eq_true d2;have e2:=decide_eq_false (show ¬s.vals[i]<=m.vars[i].high by omega);simp (disch:=try exact dD _) only [↓reduceIte,↓rK,rO,hi',z0,z1,d1',e,d2',e2,cond_false]
     ·have d2':=eq_false d2;have e2:=decide_eq_true (show s.vals[i]<=m.vars[i].high by omega);simp (disch:=try exact dD _) only [↓reduceIte,↓rK,rO,hi',z0,z1,d1',e,d2',e2,cond_true];rfl
   obtain ⟨τ2,g2,_⟩:=D6 (P:=t38_1 call k) (I:=λσ=>σ=τ) (mk:=λi=>[.ptr 0 0 0,.ptr 1 0 0,.int .i64 (i:Int)]) (fin:=[]) (res:=[.bool false]) (id:=2) (n:=m.vars.length)
    (ok:=λi=>if h:i<m.vars.length then decide (m.vars[i].low<=s.vals[i])&&decide (s.vals[i]<=m.vars[i].high) else true)
    (by
      rintro i σ hi rfl ho
      simp only [dif_pos hi] at ho;exact ⟨σ,by rw [hb2 i hi,ho];rfl,rfl⟩)
    (by
      rintro i σ hi rfl ho
      simp only [dif_pos hi] at ho;exact ⟨σ,by rw [hb2 i hi,ho];rfl,rfl⟩)
    (by
      rintro σ rfl
      refine ⟨σ,?_,rfl⟩;have hi':=eq_false (show ¬(m.vars.length:Int)<(s.vals.length:Int) by omega);unfold t38_1;simp (disch:=try exact dD _) only [↓reduceIte,↓rK,rO,z1,hi'])
    m.vars.length 0 k τ (by omega) hk2 rfl
   rw [show ((0:Nat):Int)=0 from rfl,LZ (λp:Var×Int=>decide (p.1.low<=p.2)&&decide (p.2<=p.1.high)) m.vars s.vals c2 _ (by intro i h1 h2;simp only [dif_pos h1])] at g2;subst hT;simp (disch:=try exact dD _) only [↓reduceIte,↓rK,rO,Nat.reduceEqDiff,c1',c2',g1] at hw;rw [decide_eq_true c1,decide_eq_true c2];cases ha:(m.procs.zip s.locs).all (λp:Bi×Int=>decide (0<=p.2)&&decide (p.2<p.1.locs.length)) with
   | false =>
    rw [ha] at hw;simp only [rO,AL,cond_false] at hw;exact ⟨_,hw.symm⟩
   | true =>
    rw [ha] at hw;unfold t38_3 at hw;simp (disch:=try exact dD _) only [↓rK,rO,cond_true,g2] at hw;cases hc:(m.vars.zip s.vals).all (λp:Var×Int=>decide (p.1.low<=p.2)&&decide (p.2<=p.1.high)) with
    | false =>
     rw [hc] at hw;simp only [rO,AL,cond_false] at hw;exact ⟨_,hw.symm⟩
    | true =>
     rw [hc] at hw;unfold t38_2 at hw;simp only [↓rK,rO,AL,cond_true] at hw;exact ⟨_,hw.symm⟩
  ·have c2':=eq_false (show ¬(s.vals.length:Int)=(m.vars.length:Int) by omega);simp (disch:=try exact dD _) only [↓reduceIte,↓rK,rO,AL,Nat.reduceEqDiff,c1',c2'] at hw;rw [decide_eq_false c2,Bool.false_and,Bool.and_false];exact ⟨_,hw.symm⟩
 ·have c1':=eq_false (show ¬(s.locs.length:Int)=(m.procs.length:Int) by omega);simp (disch:=try exact dD _) only [↓reduceIte,↓rK,rO,AL,Nat.reduceEqDiff,c1'] at hw;rw [decide_eq_false c1];exact ⟨_,hw.symm⟩
def CJ (l:List B):B:=l.flatMap λp=>32 :: p
theorem Vk (l:List B) (a:B):CJ (l++[a])=CJ l++[32]++a:=by simp [CJ]
theorem Vl: ∀ l:List B,(CJ l).drop 1=C9 [32] l
 | []=>rfl
 | [a]=>by simp [CJ,C9]
 | a :: b :: r=>by
  have ih:=Vl (b :: r);have e:CJ (b :: r)=32 :: (CJ (b :: r)).drop 1:=by simp [CJ]
  have e2:CJ (a :: b :: r)=32 :: (a++CJ (b :: r)):=by simp [CJ]
  show _=a++[32]++C9 [32] (b :: r);rw [e2,<-ih];show a++CJ (b :: r)=_;rw [List.append_assoc,List.singleton_append,<-e]
theorem Vm (l:List B) (h: ∀ a∈l,a.length<=8):(CJ l).length<=9*l.length:=by
 induction l with
 | nil=>simp [CJ]
 | cons a r ih =>
  have h1:=h a (by simp);have h2:=ih λx hx=>h x (by simp [hx])
  have e:CJ (a :: r)=32 :: (a++CJ r):=by simp [CJ]
  rw [e,List.length_cons,List.length_append,List.length_cons];omega
theorem mO {m:AQ} {s:BG} (hr:m.right=true) (hf:m.fits s=true): ∀ a∈Bb m s,a.length<=8:=by
 obtain ⟨f1,f2,f3,f4⟩:=(Em m s).1 hf;intro a ha;obtain ⟨i,hi,rfl⟩:=List.getElem_of_mem ha;have hi1:i<m.procs.length:=by rw [FN m s f1] at hi;exact hi
 obtain ⟨n,hn,hlt,e,hw⟩:=Jg hr hf i hi1 (by omega);rw [List.getElem?_eq_getElem hi] at e;rw [Option.some.inj e];exact Ii hw
set_option maxHeartbeats 4000000 in
theorem vM {call:SS.Call} {k:Nat} (h1: ∀ (n:Int) τ,-999<=n->n<=999->call 66 [.int .i64 n] τ=some (.str (BK n),τ)) (m:AQ) (s:BG) (_:Ae m) (hr:m.right=true) (hf:m.fits s=true) (hk:100<k) :
 ∃ σ,t39 call k [AP.enc m,Af.enc s] .empty=some (.str (Bu m s),σ):=by
 obtain ⟨f1,f2,f3,f4⟩:=(Em m s).1 hf;obtain ⟨r1,r2,r3,r4,r5,_⟩:=Gg hr;have hlp:=FN m s f1;have hls:=mO hr hf;obtain ⟨T,hT⟩: ∃ T,T=(St.empty.new (.blk (V.cellsF (AP.enc m)) 30 0 false)).new (.blk (V.cellsF (Af.enc s)) 35 0 false):=⟨_,rfl⟩
 have z0:T.get 0=some (.blk [(AA Az).enc m.vars,(AA BH).enc m.procs,(AA BF).enc m.trans] 30 0 false):=by rw [hT,<-Cj];simp (disch:=decide) [St.zAe,Aa,BD]
 have z1:T.get 1=some (.blk [(AA AJ).enc s.locs,(AA AJ).enc s.vals] 35 0 false):=by rw [hT,<-Gv];simp (disch:=decide) [St.zAe,Aa,BD]
 simp only [Cj,Gv] at hT;have loop1:Ai (t39_0 call k) k [.ptr 0 0 0,.ptr 1 0 0,.str [],.int .i64 0] T=some (.exit 0,[.ptr 1 0 0,.str (CJ (Bb m s))],T):=by
  obtain ⟨e,vs',σ,q1,q2,q3⟩:=Bl (P:=t39_0 call k) (Inv:=λr v τ=>∃ i:Nat,r+i=m.procs.length/\v=[.ptr 0 0 0,.ptr 1 0 0,.str (CJ ((Bb m s).take i)),.int .i64 (i:Int)]/\τ=T)
   (Q:=λy=>y=(.exit 0,[.ptr 1 0 0,.str (CJ (Bb m s))],T))
   (by
     rintro r v τ ⟨i,hri,rfl,rfl⟩
     generalize hw:t39_0 call k [.ptr 0 0 0,.ptr 1 0 0,.str (CJ ((Bb m s).take i)),.int .i64 (i:Int)] τ=w;unfold t39_0 at hw;by_cases hi:i<m.procs.length
     ·have hi2:i<s.locs.length:=by omega
      have hi':=eq_true (show (i:Int)<(s.locs.length:Int) by omega);obtain ⟨n,hn2,hlt,e1,e2⟩:=Jg hr hf i hi hi2;have hld:=λ(τ:St) (K:V->Option (AEx×List V×St))=>J6 (σ:=τ) (l:=s.locs) (n:=i) hi2 K
      rw [hn2] at hld;have hpart:(Bb m s)[i]'(by omega)=m.procs[i].locs[n]:=by
       rw [List.getElem?_eq_getElem (by omega)] at e1;exact Option.some.inj e1
      have hrow:CJ ((Bb m s).take (i+1))=CJ ((Bb m s).take i)++[32]++m.procs[i].locs[n]:=by
       rw [List.take_succ_eq_append_getElem (by omega),hpart];exact Vk _ _
      have hl1:=Vm ((Bb m s).take i) λa ha=>hls a (List.mem_of_mem_take ha)
      rw [List.length_take] at hl1;have hl2:=Ii e2;simp (disch:=try exact dD _) only [↓hld,↓reduceIte,↓rK,rO,hi',z0,z1] at hw;refine .inl ⟨r - 1,_,_,by omega,hw.symm,i+1,by omega,?_,rfl⟩;rw [hrow];rfl
     ·have he:i=m.procs.length:=by omega
      subst he;have hi':=eq_false (show ¬(m.procs.length:Int)<(s.locs.length:Int) by omega);simp (disch:=try exact dD _) only [↓reduceIte,↓rK,rO,hi',z1] at hw;refine .inr ⟨_,_,τ,hw.symm,(by intro h;cases h),?_⟩;rw [List.take_of_length_le (by omega)])
   m.procs.length k [.ptr 0 0 0,.ptr 1 0 0,.str [],.int .i64 0] T (by omega) ⟨0,by omega,rfl,rfl⟩
  rw [q1,q3]
 have loop2:Ai (t39_1 call k) k [.ptr 1 0 0,.str (CJ (Bb m s)),.int .i64 0] T=some (.exit 2,[.str (CJ (Bb m s++s.vals.map BK))],T):=by
  obtain ⟨e,vs',σ,q1,q2,q3⟩:=Bl (P:=t39_1 call k) (Inv:=λr v τ=>∃ i:Nat,r+i=s.vals.length/\v=[.ptr 1 0 0,.str (CJ (Bb m s++(s.vals.take i).map BK)),.int .i64 (i:Int)]/\τ=T)
   (Q:=λy=>y=(.exit 2,[.str (CJ (Bb m s++s.vals.map BK))],T))
   (by
     rintro r v τ ⟨i,hri,rfl,rfl⟩
     generalize hw:t39_1 call k [.ptr 1 0 0,.str (CJ (Bb m s++(s.vals.take i).map BK)),.int .i64 (i:Int)] τ=w;unfold t39_1 at hw;by_cases hi:i<s.vals.length
     ·have hi':=eq_true (show (i:Int)<(s.vals.length:Int) by omega);obtain ⟨u0,u1⟩:=f4 i (by omega) hi;obtain ⟨_,v1,v2,v3,v4⟩:=r1 _ (List.getElem_mem (show i<m.vars.length by omega));have p1:=h1 s.vals[i] τ (by omega) (by omega);have hdl: ∀ a∈Bb m s++(s.vals.take i).map BK,a.length<=8:=by
       intro a ha;rcases List.mem_append.1 ha with ha | ha
       ·exact hls a ha
       ·obtain ⟨n,hn,rfl⟩:=List.mem_map.1 ha;have hn:=List.mem_of_mem_take hn;obtain ⟨j,hj,rfl⟩:=List.getElem_of_mem hn;obtain ⟨u0,u1⟩:=f4 j (by omega) hj;obtain ⟨_,v1,v2,v3,v4⟩:=r1 _ (List.getElem_mem (show j<m.vars.length by omega));have:=IW s.vals[j] (by omega) (by omega);omega
      have hl1:=Vm _ hdl;rw [List.length_append,List.length_map,List.length_take] at hl1;have hl2:=IW s.vals[i] (by omega) (by omega);have hrow:CJ (Bb m s++(s.vals.take (i+1)).map BK)=CJ (Bb m s++(s.vals.take i).map BK)++[32]++BK s.vals[i]:=by
       rw [List.take_succ_eq_append_getElem hi,List.map_append,<-List.append_assoc];exact Vk _ _
      simp (disch:=try exact dD _) only [↓reduceIte,↓rK,rO,hi',z1,p1] at hw;refine .inl ⟨r - 1,_,_,by omega,hw.symm,i+1,by omega,?_,rfl⟩;rw [hrow];rfl
     ·have he:i=s.vals.length:=by omega
      subst he;have hi':=eq_false (show ¬(s.vals.length:Int)<(s.vals.length:Int) by omega);simp (disch:=try exact dD _) only [↓reduceIte,↓rK,rO,hi',z1] at hw;refine .inr ⟨_,_,τ,hw.symm,(by intro h;cases h),?_⟩;rw [List.take_length])
   s.vals.length k [.ptr 1 0 0,.str (CJ (Bb m s)),.int .i64 0] T (by omega) ⟨0,by omega,by simp,rfl⟩
  rw [q1,q3]
 have hlen:1<=(CJ (Bb m s++s.vals.map BK)).length:=by
  match hq:Bb m s,hlp with
  | [],h=>simp at h;omega
  | a :: r,_=>simp [CJ]
 generalize hw:t39 call k [AP.enc m,Af.enc s] .empty=w;unfold t39 t39_3 t39_2 at hw;subst hT;simp (disch:=try exact dD _) only [↓rK,rO,AL,loop1,loop2] at hw;rw [Vl] at hw;have e:Bu m s=C9 [32] (Bb m s++s.vals.map BK):=by unfold Bu;rw [hr,hf];rfl
 rw [e];exact ⟨_,hw.symm⟩
theorem qB {call:SS.Call} {k:Nat} (h1: ∀ (m:AQ) (s:BG) τ,Ae m->BX s->call 16 [AP.enc m,Af.enc s] τ=some (.bool (m.right&&m.fits s),τ)) (h2: ∀ (m:AQ) (s:BG) τ,Ae m->m.right=true->m.fits s=true->call 39 [AP.enc m,Af.enc s] τ=some (.str (Bu m s),τ)) (m:AQ) (s:BG) (hm:Ae m) (hs:BX s) :
 ∃ σ,t17 call k [AP.enc m,Af.enc s] .empty=some (.str (Bu m s),σ):=by
 have q1:=λτ=>h1 m s τ hm hs
 generalize hw:t17 call k [AP.enc m,Af.enc s] .empty=w;unfold t17 at hw;cases hr:(m.right&&m.fits s) with
 | false =>
  rw [hr] at q1;have e:Bu m s=[]:=by unfold Bu;rw [hr];rfl
  simp (disch:=try exact dD _) only [↓reduceIte,↓rK,rO,AL,Nat.reduceAdd,Nat.reduceEqDiff,q1] at hw;rw [e];exact ⟨_,hw.symm⟩
 | true =>
  rw [hr] at q1;rw [Bool.and_eq_true] at hr;have q2:=λτ=>h2 m s τ hm hr.1 hr.2
  simp (disch:=try exact dD _) only [↓reduceIte,↓rK,rO,AL,Nat.reduceAdd,Nat.reduceEqDiff,q1,q2] at hw;exact ⟨_,hw.symm⟩
structure LK (call:SS.Call):Prop where
 model: ∀ (m:AQ) τ,Ae m->call 8 [AP.enc m] τ=some (.bool m.right,τ)
 fits: ∀ (m:AQ) (v:V) (s:BG) τ,Bd env τ [AP.enc m,v]=some [AP.enc m,Af.enc s]->Ae m->BX s->call 38 [AP.enc m,v] τ=some (.bool (m.fits s),τ)
 text: ∀ (m:AQ) (v:V) (s:BG) τ,Bd env τ [AP.enc m,v]=some [AP.enc m,Af.enc s]->Ae m->m.right=true->m.fits s=true->call 39 [AP.enc m,v] τ=some (.str (Bu m s),τ)
 cut: ∀ (s:B) (c:UInt8) τ,s.length<1900000->call 10 [.str s,.int .u8 (by8 c)] τ=some ((AA AC).enc (cut c s),τ)
 place: ∀ (m:AQ) (p:Int) (s:B) τ,Ae m->p<m.procs.length->call 45 [AP.enc m,.int .i64 p,.str s] τ=some (.int .i64 (m.place p s),τ)
 amount: ∀ (s:B) τ,s.length<1900000->call 37 [.str s,.bool true] τ=some (.tup [.int .i64 (amount s true).1,.bool (amount s true).2],τ)
theorem wW (m:AQ) (ws:List B) (i:Nat) (h1:m.procs.length<=i) (h2:i<ws.length):((ws.drop m.procs.length).take (i+1 - m.procs.length)).map amN=((ws.drop m.procs.length).take (i - m.procs.length)).map amN++[amN ws[i]]:=by
 have e:i+1 - m.procs.length=(i - m.procs.length)+1:=by omega
 have hl:i - m.procs.length<(ws.drop m.procs.length).length:=by rw [List.length_drop];omega
 rw [e,List.take_succ_eq_append_getElem hl,List.map_append,List.getElem_drop];simp [show m.procs.length+(i - m.procs.length)=i by omega]
set_option maxHeartbeats 4000000 in
theorem oZ {call:SS.Call} (h:LK call) {k:Nat} (m:AQ) (t:B) (ws:List B) (hm:Ae m) (_:m.right=true) (hws: ∀ w∈ws,w.length<1900000) (hw:ws.length=m.procs.length+m.vars.length) (hk:ws.length<k) (τ:St) (hI:SI τ m .nilS .nilS [] []) :
 ∃ σ xl xv,Ai (t22_1 call k) k [.str t,.ptr 0 0 0,.ptr 1 0 0,.ptr 2 0 0,(AA AC).enc ws,.int .i64 0] τ=some (.exit 0,[.str t,.ptr 0 0 0,.ptr 1 0 0,.ptr 2 0 0],σ)/\SI σ m xl xv (DF m ws) ((ws.drop m.procs.length).map amN):=by
 have l1:=hm.procs;have l2:=hm.vars
 have hil:(DF m ws).length=m.procs.length:=by unfold DF;rw [List.length_map,List.length_zip];omega
 have e0:V.agg [(AA Az).enc m.vars,(AA BH).enc m.procs,(AA BF).enc m.trans]=AP.enc m:=rfl
 obtain ⟨e,vs',σ,q1,q2,q3⟩:=Bl (P:=t22_1 call k) (Inv:=λr v σ=>∃ (i:Nat) (xl xv:V),r+i=ws.length/\v=[.str t,.ptr 0 0 0,.ptr 1 0 0,.ptr 2 0 0,(AA AC).enc ws,.int .i64 (i:Int)]/\SI σ m xl xv ((DF m ws).take i) (((ws.drop m.procs.length).take (i - m.procs.length)).map amN))
  (Q:=λy=>y.1=.exit 0/\y.2.1=[.str t,.ptr 0 0 0,.ptr 1 0 0,.ptr 2 0 0]/\∃ xl xv,SI y.2.2 m xl xv (DF m ws) ((ws.drop m.procs.length).map amN))
  (by
    rintro r v σ ⟨i,xl,xv,hri,rfl,hS⟩
    have hz:=hS.z;have hs:=hS.s
    simp only [Cj] at hz;have hx:xl.one=true/\xv.one=true:=by obtain ⟨_,_,q1,q2,_⟩:=hS.ls;exact ⟨q1.one,q2.one⟩
    obtain ⟨x1,x2⟩:=hx;generalize hw:t22_1 call k [.str t,.ptr 0 0 0,.ptr 1 0 0,.ptr 2 0 0,(AA AC).enc ws,.int .i64 (i:Int)] σ=w;unfold t22_1 t22_0 at hw;by_cases hi:i<ws.length
    ·have hi':=eq_true (show (i:Int)<(ws.length:Int) by omega);by_cases hp:i<m.procs.length
     ·have hp':=eq_true (show (i:Int)<(m.procs.length:Int) by omega);have p1:=h.place m (i:Int) ws[i] σ hm (by omega);have ep:m.place (i:Int) ws[i]=find ws[i] m.procs[i].locs:=by
       unfold AQ.place;rw [if_neg (by omega),Int.toNat_natCast,List.getElem?_eq_getElem hp]
      rw [ep] at p1;obtain ⟨x',σ',a1,a2,a3,a4⟩:=hS.loc (by rw [List.length_take];omega) (find ws[i] m.procs[i].locs);simp (disch:=try exact dD _) only [↓reduceIte,↓rK,rO,Nat.reduceAdd,hi',hp',hz,e0,hs,p1,↓BA,BA,x1,a1,a2] at hw;rw [<-Tf m ws i hp hi] at a4;refine .inl ⟨r - 1,_,_,by omega,hw.symm,i+1,x',xv,by omega,rfl,?_⟩;rw [show i+1 - m.procs.length=i - m.procs.length by omega];exact a4
     ·have hp':=eq_false (show ¬(i:Int)<(m.procs.length:Int) by omega);have p1:=h.amount ws[i] σ (hws _ (List.getElem_mem hi));obtain ⟨x',σ',a1,a2,a3,a4⟩:=hS.val (by rw [List.length_map,List.length_take,List.length_drop];omega) (amN ws[i]);unfold amN at a1;simp (disch:=try exact dD _) only [↓reduceIte,↓rK,rO,Nat.reduceAdd,hi',hp',hz,hs,p1,↓BA,BA,x2,a1,a2] at hw;rw [<-wW m ws i (by omega) hi] at a4;refine .inl ⟨r - 1,_,_,by omega,hw.symm,i+1,xl,x',by omega,rfl,?_⟩;rw [List.take_of_length_le (by omega)] at a4 ⊢;exact a4
    ·have he:i=ws.length:=by omega
     subst he;have hi':=eq_false (show ¬(ws.length:Int)<(ws.length:Int) by omega);simp (disch:=try exact dD _) only [↓reduceIte,↓rK,rO,hi'] at hw;rw [List.take_of_length_le (by omega),List.take_of_length_le (by rw [List.length_drop];omega)] at hS;exact .inr ⟨_,_,σ,hw.symm,(by intro h;cases h),rfl,rfl,xl,xv,hS⟩)
  ws.length k [.str t,.ptr 0 0 0,.ptr 1 0 0,.ptr 2 0 0,(AA AC).enc ws,.int .i64 0] τ hk ⟨0,.nilS,.nilS,by omega,rfl,by simpa using hI⟩
 obtain ⟨q3,q4,xl,xv,q5⟩:=q3;simp only at q3 q4 q5;subst q3 q4;exact ⟨σ,xl,xv,q1,q5⟩
theorem oW {call:SS.Call} (h:LK call) {k:Nat} {m:AQ} {t:B} {σ:St} {xl xv:V} {s:BG} (hm:Ae m) (hs:BX s) (hr:m.right=true) (hS:SI σ m xl xv s.locs s.vals) :
 ∃ v b σ',t22_2 call k [.str t,.ptr 0 0 0,.ptr 1 0 0,.ptr 2 0 0] σ=some (.ret,[v,.bool b],σ')/\v.kind≠0/\frz env σ' 63 v=some (Af.enc (if m.fits s&&decide (Bu m s=t) then s else ⟨[],[]⟩))/\b=(m.fits s&&decide (Bu m s=t)):=by
 have hz:=hS.z;have hr1:=hS.r;have hs2:=hS.s
 have hfz:Bd env σ [AP.enc m,.agg [xl,xv]]=some [AP.enc m,Af.enc s]:=KS (AP.zero m) (TQ hS (n:=63) (by omega)) hS.kind;have p1:=h.fits m _ s σ hfz hm hs;have hst0:=Hu 1 σ .nilS .nilS .nilS .nilS rfl rfl hr1;have hone:xl.one=true/\xv.one=true:=by obtain ⟨_,_,q1,q2,_⟩:=hS.ls;exact ⟨q1.one,q2.one⟩
 have hst1:=Hu 1 σ .nilS .nilS xl xv hone.1 hone.2 hr1;have e0:V.agg [(AA Az).enc m.vars,(AA BH).enc m.procs,(AA BF).enc m.trans]=AP.enc m:=rfl;simp only [Cj] at hz;generalize hw:t22_2 call k [.str t,.ptr 0 0 0,.ptr 1 0 0,.ptr 2 0 0] σ=w;unfold t22_2 at hw;cases hf:m.fits s with
 | false =>
  rw [hf] at p1;simp (disch:=try exact dD _) only [↓reduceIte,↓rK,rO,Nat.reduceAdd,hz,hs2,e0,p1,hst0] at hw;exact ⟨_,_,_,hw.symm,by decide,rfl,rfl⟩
 | true =>
  rw [hf] at p1;have p2:=h.text m _ s σ hfz hm hr hf;by_cases hd:Bu m s=t
  ·have hd':=eq_true hd;simp (disch:=try exact dD _) only [↓reduceIte,↓rK,rO,Nat.reduceAdd,hz,hs2,e0,p1,p2,hd',hst1] at hw;refine ⟨_,_,_,hw.symm,hS.kind,?_,by rw [decide_eq_true hd];rfl⟩;rw [decide_eq_true hd];obtain ⟨bl,bv,e1,e2,d1,d2,d3⟩:=hS.ls;have o: ∀ {ty sz v n cs b},Lst σ ty sz v n cs b->3<=b->Lst (σ.put 1 (.blk [xl,xv] 35 0 false)) ty sz v n cs b:=λh hb=>h.of (λ_=>by rw [St.zAg,if_neg (by omega)]) (Nat.le_refl _)
   show (match [xl,xv].mapM (frz env _ (61+1)) with | some ys=>some (V.agg ys) | none=>none)=_;rw [List.mapM_cons,List.mapM_cons,List.mapM_nil,En (by omega) (o e1 d1),En (by omega) (o e2 d2)];rfl
  ·have hd':=eq_false hd;simp (disch:=try exact dD _) only [↓reduceIte,↓rK,rO,Nat.reduceAdd,hz,hs2,e0,p1,p2,hd',hst0] at hw;refine ⟨_,_,_,hw.symm,by decide,?_,by rw [decide_eq_false hd];rfl⟩;rw [decide_eq_false hd];rfl
theorem o5 {call:SS.Call} (h:LK call) {k:Nat} (m:AQ) (t:B) (hm:Ae m) (ht:t.length<1800000) (hk:1900000<=k) :
 ∃ v σ,t22 call k [AP.enc m,.str t] .empty=some (v,σ)/\Bn env σ v ((DV Af BB).enc (Dc amN m t)):=by
 have l1:=hm.procs;have l2:=hm.vars
 have hle:=GX 32 t;have p1:=λτ=>h.model m τ hm
 have p0:=λτ=>h.cut t 32 τ (by omega)
 rw [show by8 32=32 from rfl] at p0;have e0:V.agg [(AA Az).enc m.vars,(AA BH).enc m.procs,(AA BF).enc m.trans]=AP.enc m:=rfl;have h0:SI (((St.empty.new (.blk (V.cellsF (AP.enc m)) 30 0 false)).new (.blk [.nilS,.nilS] 35 0 false)).new (.blk [.nilS,.nilS] 35 0 false)) m .nilS .nilS [] [] :=
  ⟨by simp (disch:=decide) [St.zAe,Aa,BD],by simp (disch:=decide) [St.zAe,Aa,BD],by simp (disch:=decide) [St.zAe,Aa,BD],by rw [Aa,Aa,Aa,BD];omega,3,4,C5 _ _ _ _,C5 _ _ _ _,by omega,by omega,by omega⟩
 have hst0:=Hu 1 _ .nilS .nilS .nilS .nilS rfl rfl h0.r;simp only [Cj] at hst0;generalize hw:t22 call k [AP.enc m,.str t] .empty=w;unfold t22 at hw;unfold Dc;cases hr:m.right with
 | false =>
  rw [hr] at p1;simp (disch:=try exact dD _) only [↓reduceIte,↓rK,rO,AL,Nat.reduceAdd,Nat.reduceEqDiff,p0,e0,p1,hst0] at hw;exact ⟨_,_,hw.symm,.inr ⟨(by intro h;cases h),rfl⟩⟩
 | true =>
  rw [hr] at p1;by_cases hl:(cut 32 t).length=m.procs.length+m.vars.length
  ·have hl':=eq_true (show ((cut 32 t).length:Int)=(m.procs.length:Int)+(m.vars.length:Int) by omega);obtain ⟨σ1,xl,xv,g1,g2⟩:=oZ h (k:=k) m t (cut 32 t) hm hr (λw hw=>by have:=KL 32 t w hw;omega) hl (by omega) _ h0;have hsm:BX (Es amN m t):=by
    refine ⟨?_,?_⟩
    ·show (DF m (cut 32 t)).length<1000000;unfold DF;rw [List.length_map,List.length_zip];omega
    ·show (((cut 32 t).drop m.procs.length).map amN).length<1000000;rw [List.length_map,List.length_drop];omega
   obtain ⟨v,b,σ3,e1,e2,e3,e4⟩:=oW h (k:=k) (t:=t) (s:=Es amN m t) hm hsm hr g2;simp only [Cj] at g1;simp (disch:=try exact dD _) only [↓reduceIte,↓rK,rO,AL,Nat.reduceAdd,Nat.reduceEqDiff,p0,e0,p1,hl',g1,e1] at hw;refine ⟨_,_,hw.symm,.inr ⟨by show max v.kind _≠0;omega,?_⟩⟩;subst e4;rw [decide_eq_true hl];show (match [v,V.bool _].mapM (frz env σ3 63) with | some ys=>some (V.tup ys) | none=>none)=_;rw [List.mapM_cons,List.mapM_cons,List.mapM_nil,e3];cases (m.fits (Es amN m t)&&decide (Bu m (Es amN m t)=t))<;>rfl
  ·have hl':=eq_false (show ¬((cut 32 t).length:Int)=(m.procs.length:Int)+(m.vars.length:Int) by omega);simp (disch:=try exact dD _) only [↓reduceIte,↓rK,rO,AL,Nat.reduceAdd,Nat.reduceEqDiff,p0,e0,p1,hl',hst0] at hw;rw [decide_eq_false hl];exact ⟨_,_,hw.symm,.inr ⟨(by intro h;cases h),rfl⟩⟩
structure JI (τ:St) (m:AQ) (xv:V) (i:Nat):Prop where
 z:τ.get 0=some (.blk (V.cellsF (AP.enc m)) 30 0 false)
 i:II τ m xv i
theorem eO {call:SS.Call} {k:Nat} (m:AQ) (hm:Ae m) (hk:m.vars.length<k) (τ:St) (hI:JI τ m .nilS 0) :
 ∃ σ xv,Ai (t24_0 call k) k [.ptr 0 0 0,.ptr 1 0 0,.ptr 3 0 0,.int .i64 0] τ=some (.exit 0,[.ptr 1 0 0,.ptr 3 0 0],σ)/\JI σ m xv m.vars.length:=by
 have hlen:=hm.vars
 obtain ⟨e,vs',σ,q1,q2,q3⟩:=Bl (P:=t24_0 call k) (Inv:=λr v σ=>∃ (i:Nat) (xv:V),r+i=m.vars.length/\v=[.ptr 0 0 0,.ptr 1 0 0,.ptr 3 0 0,.int .i64 (i:Int)]/\JI σ m xv i)
  (Q:=λy=>y.1=.exit 0/\y.2.1=[.ptr 1 0 0,.ptr 3 0 0]/\∃ xv,JI y.2.2 m xv m.vars.length)
  (by
    rintro r v σ ⟨i,xv,hri,rfl,hS⟩
    generalize hw:t24_0 call k [.ptr 0 0 0,.ptr 1 0 0,.ptr 3 0 0,.int .i64 (i:Int)] σ=w;unfold t24_0 at hw;have hz:=hS.z;simp only [Cj] at hz;by_cases hi:i<m.vars.length
    ·have hi':=eq_true (show (i:Int)<(m.vars.length:Int) by omega);obtain ⟨b,hL,hb4⟩:=hS.i.v;have hn:=hS.i.n;obtain ⟨x',b',σ',ha,hL',hn',hfr,hb',hbn'⟩:=DQ (new:=[.int .i64 m.vars[i].init]) hL (by omega) rfl (by decide);have g: ∀ c,c<4->σ'.get c=σ.get c:=λc hc=>by rw [hfr c (by omega) (by omega)]
     have g3:σ'.get 3=some (.blk [.ref 2 0 0 m.procs.length (some m.procs.length),xv] 35 0 false):=by rw [g 3 (by omega)];exact hS.i.s
     have hs3:=hS.i.s;have ho:xv.one=true:=hL.one;have ho':x'.one=true:=hL'.one;have hrow:rows AJ ((m.vars.take (i+1)).map (·.init))=rows AJ ((m.vars.take i).map (·.init))++[.int .i64 m.vars[i].init]:=by
      rw [List.take_succ_eq_append_getElem hi,List.map_append];exact DI AJ _ _
     simp (disch:=try exact dD _) only [↓reduceIte,↓rK,rO,Nat.reduceAdd,hi',hz,hs3,ho,ha,g3] at hw;refine .inl ⟨r - 1,_,_,by omega,hw.symm,i+1,x',by omega,rfl,?_⟩;refine ⟨by rw [St.zAg,if_neg (by omega),g 0 (by omega)];exact hS.z,by rw [St.zAg,if_neg (by omega),g 1 (by omega)];exact hS.i.r,by rw [St.zAg,if_neg (by omega),g 2 (by omega)];exact hS.i.l,by rw [St.zAg,if_pos rfl],by rw [A9];omega,b',?_,by omega⟩;rw [hrow];exact hL'.of (λ_=>by rw [St.zAg,if_neg (by omega)]) (Nat.le_refl _)
    ·have he:i=m.vars.length:=by omega
     subst he;have hi':=eq_false (show ¬(m.vars.length:Int)<(m.vars.length:Int) by omega);simp (disch:=try exact dD _) only [↓reduceIte,↓rK,rO,hi',hz] at hw;exact .inr ⟨_,_,σ,hw.symm,(by intro h;cases h),rfl,rfl,xv,hS⟩)
  m.vars.length k [.ptr 0 0 0,.ptr 1 0 0,.ptr 3 0 0,.int .i64 0] τ hk ⟨0,.nilS,by omega,rfl,hI⟩
 obtain ⟨q3,q4,xv,q5⟩:=q3;simp only at q3 q4 q5;subst q3 q4;exact ⟨σ,xv,q1,q5⟩
theorem eP {call:SS.Call} {k:Nat} (m:AQ) (hm:Ae m) (hk:m.vars.length<k) :
 ∃ v σ,t24 call k [AP.enc m] .empty=some (v,σ)/\Bn env σ v (Af.enc (DP m)):=by
 have hl1:=hm.procs;have hl2:=hm.vars
 generalize hw:t24 call k [AP.enc m] .empty=w;unfold t24 at hw;have hst: ∀ (b:Nat) (σ:St) (x y a c:V),a.one=true->c.one=true->σ.get b=some (.blk [x,y] 35 0 false)->storeAt env 35 (.ptr b 0 0) (.agg [a,c]) σ=some (σ.put b (.blk [a,c] 35 0 false)):=λb σ x y a c ha hc hg=>Ef K7 hg rfl rfl (by simp [V.cells,BO,ha,hc])
 have hmk:=λ(σ:St) (K:V->St->Option (AEx×List V×St))=>US m.procs.length hl1 σ K
 have h0:JI ((((((St.empty.new (.blk (V.cellsF (AP.enc m)) 30 0 false)).new (.blk [.nilS,.nilS] 35 0 false)).new (.blk (List.replicate m.procs.length (.int .i64 0)) 3 0 false)).new (.blk [.nilS,.nilS] 35 0 false)).put 3 (.blk [.ref 2 0 0 m.procs.length (some m.procs.length),.nilS] 35 0 false))) m .nilS 0 :=
  ⟨by simp (disch:=decide) [St.zAe,St.zAg,Aa,BD],by simp (disch:=decide) [St.zAe,St.zAg,Aa,BD],by rw [Tl];simp (disch:=decide) [St.zAe,St.zAg,Aa,BD],by simp (disch:=decide) [St.zAg],by rw [A9,Aa,Aa,Aa,Aa,BD];omega,4,C5 _ _ _ _,by omega⟩
 have hs0:=hst 3 ((((St.empty.new (.blk (V.cellsF (AP.enc m)) 30 0 false)).new (.blk [.nilS,.nilS] 35 0 false)).new (.blk (List.replicate m.procs.length (.int .i64 0)) 3 0 false)).new (.blk [.nilS,.nilS] 35 0 false)) .nilS .nilS (.ref 2 0 0 m.procs.length (some m.procs.length)) .nilS rfl rfl (by simp (disch:=decide) [St.zAe,Aa,BD]);obtain ⟨σ,xv,g1,g2⟩:=eO (call:=call) (k:=k) m hm hk _ h0;simp only [Cj] at hs0 g1;obtain ⟨b,hL,hb4⟩:=g2.i.v;have hr2:=g2.i.r;have hs2:=g2.i.s
 have hs1:=hst 1 σ .nilS .nilS (.ref 2 0 0 m.procs.length (some m.procs.length)) xv rfl hL.one g2.i.r;unfold t24_1 at hw;simp (disch:=try exact dD _) only [↓reduceIte,↓rK,rO,AL,Nat.reduceAdd,Nat.reduceEqDiff,hmk,hs0,g1,hs2,hs1] at hw;refine ⟨_,_,hw.symm,.inr ⟨?_,?_⟩⟩
 ·rw [E5,BM,BM];have:(V.ref 2 0 0 m.procs.length (some m.procs.length)).kind=2:=rfl;omega
 ·have hn:=g2.i.n;show (match [V.ref 2 0 0 m.procs.length (some m.procs.length),xv].mapM (frz env _ (62+1)) with | some ys=>some (V.agg ys) | none=>none)=_
  rw [List.mapM_cons,List.mapM_cons,List.mapM_nil,TN (cs:=(DP m).locs) (by rw [St.zAg,if_neg (by omega)];exact g2.i.l) (by simp [DP]) (by rw [A9];omega) (by omega),
   En (xs:=m.vars.map (·.init)) (by omega) (by rw [List.length_map];rw [List.take_length] at hL;exact hL.of (λ_=>by rw [St.zAg,if_neg (by omega)]) (Nat.le_refl _))]
  rfl
theorem Yw:CD env 76 [(0,(V.str [32])),(1,(V.str [40])),(2,(V.str [41])),(3,(V.str [91])),(4,(V.str [93])),(5,(V.str [85])),(6,(V.str [88])),(7,(V.str [33])),(8,(V.str [45])),(9,(V.str [57])),(10,(V.str [61])),(11,(V.str [60])),(12,(V.str [64])),(13,(V.str [119])),(14,(V.str [])),(15,(V.str [38,38])),(16,(V.str [82]))] =
 some (.agg [.str [32],.str [40],.str [41],.str [91],.str [93],.str [85],.str [88],.str [33],.str [45],.str [57],.str [61],.str [60],.str [64],.str [119],.str [],.str [38,38],.str [82]]):=by kernel_rfl
theorem Yx (n:Nat) (hn:n<17): ∃ s:B,s.length<=2/\Cn env 76 (.agg [.str [32],.str [40],.str [41],.str [91],.str [93],.str [85],.str [88],.str [33],.str [45],.str [57],.str [61],.str [60],.str [64],.str [119],.str [],.str [38,38],.str [82]]) (.int .i64 (n:Int))=some (.str s):=by
 match n,hn with
 | 0,_=>exact ⟨[32],by decide,by kernel_rfl⟩
 | 1,_=>exact ⟨[40],by decide,by kernel_rfl⟩
 | 2,_=>exact ⟨[41],by decide,by kernel_rfl⟩
 | 3,_=>exact ⟨[91],by decide,by kernel_rfl⟩
 | 4,_=>exact ⟨[93],by decide,by kernel_rfl⟩
 | 5,_=>exact ⟨[85],by decide,by kernel_rfl⟩
 | 6,_=>exact ⟨[88],by decide,by kernel_rfl⟩
 | 7,_=>exact ⟨[33],by decide,by kernel_rfl⟩
 | 8,_=>exact ⟨[45],by decide,by kernel_rfl⟩
 | 9,_=>exact ⟨[57],by decide,by kernel_rfl⟩
 | 10,_=>exact ⟨[61],by decide,by kernel_rfl⟩
 | 11,_=>exact ⟨[60],by decide,by kernel_rfl⟩
 | 12,_=>exact ⟨[64],by decide,by kernel_rfl⟩
 | 13,_=>exact ⟨[119],by decide,by kernel_rfl⟩
 | 14,_=>exact ⟨[],by decide,by kernel_rfl⟩
 | 15,_=>exact ⟨[38,38],by decide,by kernel_rfl⟩
 | 16,_=>exact ⟨[82],by decide,by kernel_rfl⟩
 | n+17,h=>exact absurd h (by omega)
theorem Yy {call:SS.Call} (hp: ∀ (n m:Int) τ,0<m->m<1000000000->call 33 [.int .i64 n,.int .i64 m] τ=some (.int .i64 (CF n m),τ)) {k:Nat} (hk:2<k) (s:B) (l:List Int) (hs:s.length<100000000) :
 ∃ u:B,t20 call k [.str s,(AA AJ).enc l] .empty=some (.str u,.empty)/\u.length<=s.length+4:=by
 obtain ⟨e,vs',σ,q1,q2,q3⟩:=Bl (P:=t20_0 call k) (Inv:=λr v σ=>∃ (i:Nat) (u:B),r+i=2/\v=[.str u,(AA AJ).enc l,.int .i64 (i:Int)]/\σ=St.empty/\u.length<=s.length+2*i)
  (Q:=λy=>y.1=.exit 0/\y.2.2=St.empty/\∃ u:B,y.2.1=[.str u]/\u.length<=s.length+4)
  (by
    rintro r v σ ⟨i,u,hri,rfl,rfl,hu⟩
    generalize hw:t20_0 call k [.str u,(AA AJ).enc l,.int .i64 (i:Int)] .empty=w;unfold t20_0 at hw;by_cases hi:i<l.length
    ·have hi':=eq_true (show (i:Int)<(l.length:Int) by omega);by_cases h2:i<2
     ·have h2':=eq_true (show (i:Int)<2 by omega);by_cases h0:0<u.length
      ·have h0':=eq_true (show (0:Int)<(u.length:Int) by omega);have q17:=λ(K:Int->Option (AEx×List V×St))=>Fb (y:=17) l[i] K (by decide)
       have q7:=λ(K:Int->Option (AEx×List V×St))=>Fb (y:=7) l[i] K (by decide)
       obtain ⟨a0,a1⟩:=Er (IntKind.i64.wrap (l[i].tdiv 17)) (u.length:Int) (by omega);obtain ⟨b0,b1⟩:=Er l[i] 17 (by omega);obtain ⟨c0,c1⟩:=Er (IntKind.i64.wrap (l[i].tdiv 7)) 2 (by omega);have p1:=hp (IntKind.i64.wrap (l[i].tdiv 17)) (u.length:Int) .empty (by omega) (by omega);have p2:=hp l[i] 17 .empty (by omega) (by omega);have p3:=hp (IntKind.i64.wrap (l[i].tdiv 7)) 2 .empty (by omega) (by omega);generalize CF (IntKind.i64.wrap (l[i].tdiv 17)) (u.length:Int)=n1 at *;generalize CF l[i] 17=n2 at *;generalize CF (IntKind.i64.wrap (l[i].tdiv 7)) 2=n3 at *;obtain ⟨n1,rfl⟩: ∃ n:Nat,n1=(n:Int):=⟨n1.toNat,by omega⟩
       obtain ⟨n2,rfl⟩: ∃ n:Nat,n2=(n:Int):=⟨n2.toNat,by omega⟩
       obtain ⟨n3,rfl⟩: ∃ n:Nat,n3=(n:Int):=⟨n3.toNat,by omega⟩
       obtain ⟨x,d1,d2⟩:=Yx n2 (by omega);have hcat:(u.take (n1 - 0)++x++u.drop (n1+n3)).length<=u.length+2:=by simp;omega
       have hsl2: ∀ K:B->Option (AEx×List V×St),slS u (n1+n3) (BN u) K=K (u.drop (n1+n3)):=λK=>Qs (by omega) K
       have hc1: ∀ K:B->Option (AEx×List V×St),Ak (u.take (n1 - 0)) x K=K (u.take (n1 - 0)++x):=λK=>NR (by simp;omega) K
       have hc2: ∀ K:B->Option (AEx×List V×St),Ak (u.take (n1 - 0)++x) (u.drop (n1+n3)) K=K (u.take (n1 - 0)++x++u.drop (n1+n3)):=λK=>NR (by simp;omega) K
       have hnat: ∀ K:Nat->Option (AEx×List V×St),Bo ((n1:Int)+(n3:Int)) K=K (n1+n3):=λK=>by rw [show (n1:Int)+(n3:Int)=((n1+n3:Nat):Int) by omega];exact Qq _ K
       simp (disch:=try exact dD _) only [↓reduceIte,↓rK,rO,hi',h2',h0',q17,q7,p1,p2,p3,Yw,d2,hc1,hc2,hnat] at hw;exact .inl ⟨r - 1,_,_,by omega,hw.symm,i+1,_,by omega,rfl,rfl,by omega⟩
      ·have h0':=eq_false (show ¬(0:Int)<(u.length:Int) by omega);simp (disch:=try exact dD _) only [↓reduceIte,↓rK,rO,hi',h2',h0'] at hw;exact .inr ⟨_,_,_,hw.symm,(by intro h;cases h),rfl,rfl,u,rfl,by omega⟩
     ·have h2':=eq_false (show ¬(i:Int)<2 by omega);simp (disch:=try exact dD _) only [↓reduceIte,↓rK,rO,hi',h2'] at hw;exact .inr ⟨_,_,_,hw.symm,(by intro h;cases h),rfl,rfl,u,rfl,by omega⟩
    ·have hi':=eq_false (show ¬(i:Int)<(l.length:Int) by omega);simp (disch:=try exact dD _) only [↓reduceIte,↓rK,rO,hi'] at hw;exact .inr ⟨_,_,_,hw.symm,(by intro h;cases h),rfl,rfl,u,rfl,by omega⟩)
  2 k [.str s,(AA AJ).enc l,.int .i64 0] .empty hk ⟨0,s,by omega,rfl,rfl,by omega⟩
 obtain ⟨q3,q4,u,q5,q6⟩:=q3;simp only at q3 q4 q5;subst q3 q4 q5;refine ⟨u,?_,q6⟩;unfold t20 t20_1;simp (disch:=try exact dD _) only [↓rK,rO,AL,q1]
structure KA (call:SS.Call) (mk:Raw->AQ) (on:AQ->List Int->Int->BG) (num:B->Int) (bn:B->List Int->B):Prop where
 known: ∀ τ,call 6 [] τ=some (.bool true,τ)
 model: ∀ (x:Raw) τ,call 7 [.agg [.int .i64 x.procs,.int .i64 x.vars,(AA (AA AJ)).enc x.trans]] τ=some (AP.enc (mk x),τ)
 small: ∀ x,Ae (mk x)
 locs: ∀ x,∀ p∈(mk x).procs,1<=p.locs.length
 vars: ∀ x,(mk x).vars.length<900000
 one: ∀ (m:AQ) (l:List Int) (n:Int) τ,Ae m->(∀ p∈m.procs,1<=p.locs.length)->m.vars.length<900000->call 15 [AP.enc m,(AA AJ).enc l,.int .i64 n] τ=some (Af.enc (on m l n),τ)
 onS: ∀ (m:AQ) (l:List Int) (n:Int),Ae m->(∀ p∈m.procs,1<=p.locs.length)->m.vars.length<900000->BX (on m l n)
 right: ∀ (m:AQ) (s:BG) τ,Ae m->BX s->call 12 [AP.enc m,Af.enc s] τ=some (.bool (m.right&&m.fits s),τ)
 right7: ∀ (m:AQ) (s:BG) τ,Ae m->BX s->call 16 [AP.enc m,Af.enc s] τ=some (.bool (m.right&&m.fits s),τ)
 print: ∀ (m:AQ) (s:BG) τ,Ae m->BX s->call 11 [AP.enc m,Af.enc s] τ=some (.str (Bu m s),τ)
 print7: ∀ (m:AQ) (s:BG) τ,Ae m->BX s->call 17 [AP.enc m,Af.enc s] τ=some (.str (Bu m s),τ)
 same: ∀ (a b:BG) τ,BX a->BX b->call 18 [Af.enc a,Af.enc b] τ=some (.bool (decide (a=b)),τ)
 same7: ∀ (a b:BG) τ,BX a->BX b->call 19 [Af.enc a,Af.enc b] τ=some (.bool (decide (a=b)),τ)
 place: ∀ (m:AQ) (s:BG) (q:B) τ,Ae m->BX s->call 13 [AP.enc m,Af.enc s,.str q] τ=some (.str (Jk m s q),τ)
 bent: ∀ (s:B) (l:List Int) τ,s.length<1000000->call 20 [.str s,(AA AJ).enc l] τ=some (.str (bn s l),τ)
 bentL: ∀ (s:B) (l:List Int),s.length<1000000->(bn s l).length<=s.length+4
 rightM: ∀ (m:AQ) τ,Ae m->call 8 [AP.enc m] τ=some (.bool m.right,τ)
 parse: ∀ (m:AQ) (t:B) τ,Ae m->t.length<1200000->call 21 [AP.enc m,.str t] τ=some (.tup [Af.enc (Dc num m t).1,.bool (Dc num m t).2],τ)
 parse7: ∀ (m:AQ) (t:B) τ,Ae m->t.length<1200000->call 22 [AP.enc m,.str t] τ=some (.tup [Af.enc (Dc amN m t).1,.bool (Dc amN m t).2],τ)
 num: ∀ k,-999<=k->k<=999->num (BK k)=k
 init: ∀ (m:AQ) τ,Ae m->call 23 [AP.enc m] τ=some (Af.enc (if m.right then DP m else ⟨[],[]⟩),τ)
 init7: ∀ (m:AQ) τ,Ae m->call 24 [AP.enc m] τ=some (Af.enc (DP m),τ)
theorem pJ {num:B->Int} {m:AQ} (hm:Ae m) (t:B):BX (Dc num m t).1:=by
 unfold Dc
 split
 ·split
  ·rename_i h;rw [Bool.and_eq_true] at h;obtain ⟨f1,f2,_⟩:=(Em m _).1 h.1;exact ⟨by rw [f1];exact hm.procs,by rw [f2];exact hm.vars⟩
  ·exact ⟨by decide,by decide⟩
 ·exact ⟨by decide,by decide⟩
theorem uH (m:AQ) (s:BG):(Bu m s).length<990000:=by
 cases h:(m.right&&m.fits s) with
 | true=>rw [Bool.and_eq_true] at h;exact uG h.1 h.2
 | false=>unfold Bu;rw [h,if_neg (by decide)];decide
theorem Lr (b:Bool):eqB b b=true:=by cases b<;>rfl
set_option maxHeartbeats 16000000 in
theorem Vz {call:SS.Call} {mk:Raw->AQ} {on:AQ->List Int->Int->BG} {num:B->Int} {bn:B->List Int->B} (h:KA call mk on num bn) {k:Nat} (m:AQ) (hm:Ae m) (u:B) (hu:u.length<1200000) (T:St) (hn:T.n=4) (hT1:T.get 1=some (.blk [(AA Az).enc m.vars,(AA BH).enc m.procs,(AA BF).enc m.trans] 30 0 false)) :
 ∃ σ,t4_2 call k [.ptr 1 0 0,.str u] T=some (.ret,[.bool true],σ):=by
 have k1:=h.known;have p1:=λτ=>h.parse m u τ hm hu
 simp only [pF h.num YS m u] at p1;have p2:=λτ=>h.parse7 m u τ hm hu
 have hs:=pJ (num:=amN) hm u;generalize Dc amN m u=P at *;obtain ⟨s,b⟩:=P;simp only at p1 p2 hs;have ht:=M5 s;have e0:V.agg [(AA Az).enc m.vars,(AA BH).enc m.procs,(AA BF).enc m.trans]=AP.enc m:=rfl;have es:V.agg [(AA AJ).enc s.locs,(AA AJ).enc s.vals]=Af.enc s:=rfl;have r7:=λτ=>h.rightM m τ hm
 have i1:=λτ=>h.init m τ hm
 have i2:=λτ=>h.init7 m τ hm
 have hsI:BX (DP m):=⟨by simp [DP];exact hm.procs,by simp [DP];exact hm.vars⟩
 have sm:=λτ=>h.same (DP m) (DP m) τ hsI hsI
 rw [decide_eq_true (rfl:DP m=DP m)] at sm;have s7:=λτ=>h.same7 s s τ hs hs
 rw [decide_eq_true (rfl:s=s)] at s7;obtain ⟨U,hU⟩: ∃ U,U=(T.new (.blk [.nilS,.nilS] 35 0 false)).put 4 (.blk [(AA AJ).enc s.locs,(AA AJ).enc s.vals] 35 0 false):=⟨_,rfl⟩
 obtain ⟨W,hW⟩: ∃ W,W=(U.new (.blk [.nilS,.nilS] 35 0 false)).put 5 (.blk [(AA AJ).enc s.locs,(AA AJ).enc s.vals] 35 0 false):=⟨_,rfl⟩
 have hUn:U.n=5:=by rw [hU,A9,Aa,hn]
 have u1:storeAt env 35 (.ptr 4 0 0) (Af.enc s) (T.new (.blk [.nilS,.nilS] 35 0 false))=some U:=by rw [hU];exact ht 4 _ (by rw [St.zAe,hn,if_pos rfl])
 have u2:storeAt env 35 (.ptr 5 0 0) (Af.enc s) (U.new (.blk [.nilS,.nilS] 35 0 false))=some W:=by rw [hW];exact ht 5 _ (by rw [St.zAe,hUn,if_pos rfl])
 have gU1:U.get 1=some (.blk [(AA Az).enc m.vars,(AA BH).enc m.procs,(AA BF).enc m.trans] 30 0 false):=by rw [hU,St.zAg,if_neg (by omega),St.zAe,if_neg (by omega),hT1]
 have gU4:U.get 4=some (.blk [(AA AJ).enc s.locs,(AA AJ).enc s.vals] 35 0 false):=by rw [hU,St.zAg,if_pos rfl]
 have gW1:W.get 1=some (.blk [(AA Az).enc m.vars,(AA BH).enc m.procs,(AA BF).enc m.trans] 30 0 false):=by rw [hW,St.zAg,if_neg (by omega),St.zAe,if_neg (by omega),gU1]
 have gW4:W.get 4=some (.blk [(AA AJ).enc s.locs,(AA AJ).enc s.vals] 35 0 false):=by rw [hW,St.zAg,if_neg (by omega),St.zAe,if_neg (by omega),gU4]
 have gW5:W.get 5=some (.blk [(AA AJ).enc s.locs,(AA AJ).enc s.vals] 35 0 false):=by rw [hW,St.zAg,if_pos rfl]
 generalize hw:t4_2 call k [.ptr 1 0 0,.str u] T=w;unfold t4_2 at hw;cases hr:m.right with
 | false =>
  rw [hr] at r7;simp (disch:=try exact dD _) only [↓reduceIte,↓rK,rO,Nat.reduceAdd,hT1,hn,hUn,u1,u2,gU1,gW1,gW4,gW5,p1,p2,e0,es,r7,k1,s7,Lr] at hw;exact ⟨_,hw.symm⟩
 | true =>
  rw [hr] at r7;rw [hr,if_pos rfl] at i1;simp (disch:=try exact dD _) only [↓reduceIte,↓rK,rO,Nat.reduceAdd,hT1,hn,hUn,u1,u2,gU1,gW1,gW4,gW5,p1,p2,e0,es,r7,i1,i2,sm,k1,s7,Lr] at hw;exact ⟨_,hw.symm⟩
theorem vL {call:SS.Call} {mk:Raw->AQ} {on:AQ->List Int->Int->BG} {num:B->Int} {bn:B->List Int->B} (h:KA call mk on num bn) {k:Nat} (m:AQ) (hm:Ae m) (s:BG) (hs:BX s) (l:List Int) (raw:B) (hraw:raw.length<1200000) (any:Bool) (T:St) (hn:T.n=4) (hT1:T.get 1=some (.blk [(AA Az).enc m.vars,(AA BH).enc m.procs,(AA BF).enc m.trans] 30 0 false)) (hT2:T.get 2=some (.blk [(AA AJ).enc s.locs,(AA AJ).enc s.vals] 35 0 false)) :
 ∃ σ,t4_3 call k [(AA AJ).enc l,.str raw,.bool any,.ptr 1 0 0,.ptr 2 0 0] T=some (.ret,[.bool true],σ):=by
 have hl:=uH m s;have p7:=λτ=>h.print7 m s τ hm hs
 have b1:=λτ=>h.bent (Bu m s) l τ (by omega)
 have b2:=h.bentL (Bu m s) l (by omega);have e0:V.agg [(AA Az).enc m.vars,(AA BH).enc m.procs,(AA BF).enc m.trans]=AP.enc m:=rfl;have es:V.agg [(AA AJ).enc s.locs,(AA AJ).enc s.vals]=Af.enc s:=rfl;generalize hw:t4_3 call k [(AA AJ).enc l,.str raw,.bool any,.ptr 1 0 0,.ptr 2 0 0] T=w;unfold t4_3 at hw;cases any with
 | true =>
  obtain ⟨σ,e⟩:=Vz h (k:=k) m hm raw hraw T hn hT1;simp (disch:=try exact dD _) only [↓reduceIte,↓rK,rO,Nat.reduceAdd,hT1,hT2,e0,es,p7,b1,e] at hw;exact ⟨_,hw.symm⟩
 | false =>
  obtain ⟨σ,e⟩:=Vz h (k:=k) m hm (bn (Bu m s) l) (by omega) T hn hT1;simp (disch:=try exact dD _) only [↓reduceIte,↓rK,rO,Nat.reduceAdd,hT1,hT2,e0,es,p7,b1,e] at hw;exact ⟨_,hw.symm⟩
set_option maxHeartbeats 16000000 in
theorem vK {call:SS.Call} {mk:Raw->AQ} {on:AQ->List Int->Int->BG} {num:B->Int} {bn:B->List Int->B} (h:KA call mk on num bn) {k:Nat} (m:AQ) (hm:Ae m) (s:BG) (hs:BX s) (hr:m.right=true) (hf:m.fits s=true) (a b c:V) (T:St) (hk:m.procs.length<k) (hT1:T.get 1=some (.blk [(AA Az).enc m.vars,(AA BH).enc m.procs,(AA BF).enc m.trans] 30 0 false)) (hT2:T.get 2=some (.blk [(AA AJ).enc s.locs,(AA AJ).enc s.vals] 35 0 false)) :
 Ai (t4_0 call k) k [a,b,c,.ptr 1 0 0,.ptr 2 0 0,.int .i64 (m.procs.length:Int),.int .i64 0] T=some (.exit 0,[a,b,c,.ptr 1 0 0,.ptr 2 0 0],T):=by
 obtain ⟨f1,f2,f3,f4⟩:=(Em m s).1 hf;have k8:=λτ q=>h.place m s q τ hm hs
 have hlen:=hm.procs;have e0:V.agg [(AA Az).enc m.vars,(AA BH).enc m.procs,(AA BF).enc m.trans]=AP.enc m:=rfl;have es:V.agg [(AA AJ).enc s.locs,(AA AJ).enc s.vals]=Af.enc s:=rfl
 obtain ⟨e,vs',σ,q1,q2,q3⟩:=Bl (P:=t4_0 call k) (Inv:=λr v τ=>∃ i:Nat,r+i=m.procs.length/\v=[a,b,c,.ptr 1 0 0,.ptr 2 0 0,.int .i64 (m.procs.length:Int),.int .i64 (i:Int)]/\τ=T)
  (Q:=λy=>y=(.exit 0,[a,b,c,.ptr 1 0 0,.ptr 2 0 0],T))
  (by
    rintro r v τ ⟨i,hri,rfl,rfl⟩
    generalize hw:t4_0 call k [a,b,c,.ptr 1 0 0,.ptr 2 0 0,.int .i64 (m.procs.length:Int),.int .i64 (i:Int)] τ=w;unfold t4_0 at hw;by_cases hi:i<m.procs.length
    ·have hi':=eq_true (show (i:Int)<(m.procs.length:Int) by omega);have hi2:i<s.locs.length:=by omega
     obtain ⟨n,hn2,hlt,e1,e2⟩:=Jg hr hf i hi hi2;have hpl:=k8 τ m.procs[i].name;rw [pT hr hf i hi hi2 e1] at hpl;have hli:=λ(K:V->Option (AEx×List V×St))=>J6 (σ:=τ) (l:=s.locs) (n:=i) hi2 K
     rw [hn2] at hli;have hlz:=λ(K:V->Option (AEx×List V×St))=>ER (σ:=τ) (l:=m.procs[i].locs) (n:=n) hlt K
     generalize hz:m.procs[i].locs[n]=z at *;simp (disch:=try exact dD _) only [↓hli,↓hlz,↓reduceIte,↓rK,rO,Nat.reduceAdd,hi',hT1,hT2,e0,es,hpl] at hw;exact .inl ⟨r - 1,_,_,by omega,hw.symm,i+1,by omega,rfl,rfl⟩
    ·have he:i=m.procs.length:=by omega
     subst he;have hi':=eq_false (show ¬(m.procs.length:Int)<(m.procs.length:Int) by omega);simp (disch:=try exact dD _) only [↓reduceIte,↓rK,rO,hi'] at hw;exact .inr ⟨_,_,_,hw.symm,(by intro h;cases h),rfl⟩)
  m.procs.length k [a,b,c,.ptr 1 0 0,.ptr 2 0 0,.int .i64 (m.procs.length:Int),.int .i64 0] T hk ⟨0,by omega,rfl,rfl⟩
 rw [q1,q3]
set_option maxHeartbeats 16000000 in
theorem vI {call:SS.Call} {mk:Raw->AQ} {on:AQ->List Int->Int->BG} {num:B->Int} {bn:B->List Int->B} (h:KA call mk on num bn) {k:Nat} (hk:1000000<=k) (x:Raw) (l o:List Int) (how:Int) (bent:List Int) (raw:B) (hraw:raw.length<1200000) (any:Bool) :
 ∃ σ,t4 call k [EP.enc x,(AA AJ).enc l,(AA AJ).enc o,.int .i64 how,(AA AJ).enc bent,.str raw,.bool any] .empty=some (.bool true,σ):=by
 have k1:=h.known;have k2:=λτ=>h.model x τ
 have hm:=h.small x;have hlo:=h.locs x;have hva:=h.vars x
 generalize mk x=m at *;have k3:=λl τ=>h.one m l how τ hm hlo hva
 have hs1:=h.onS m l how hm hlo hva;have hs2:=h.onS m o how hm hlo hva
 have k3l:=k3 l;have k3o:=k3 o
 generalize on m l how=s at *;generalize on m o how=t at *;have k4:=λτ=>h.right m s τ hm hs1
 have k5:=λτ=>h.right7 m s τ hm hs1
 have k6:=λτ=>h.print m s τ hm hs1
 have k7:=λτ=>h.print7 m s τ hm hs1
 have k8:=λτ=>h.same s t τ hs1 hs2
 have k9:=λτ=>h.same7 s t τ hs1 hs2
 have hst: ∀ (b:Nat) (σ:St),σ.get b=some (.blk [.nilS,.nilS,.nilS] 30 0 false)->storeAt env 30 (.ptr b 0 0) (AP.enc m) σ=some (σ.put b (.blk [(AA Az).enc m.vars,(AA BH).enc m.procs,(AA BF).enc m.trans] 30 0 false)):=λb σ hg=>Ef Jv hg rfl rfl (by simp [AP,V.cells,BO,Ge])
 have ht1:=M5 s;have ht2:=M5 t
 obtain ⟨T,hT⟩: ∃ T,T=((((((St.empty.new (.blk [.int .i64 x.procs,.int .i64 x.vars,(AA (AA AJ)).enc x.trans] 24 0 false)).new (.blk [.nilS,.nilS,.nilS] 30 0 false)).put 1 (.blk [(AA Az).enc m.vars,(AA BH).enc m.procs,(AA BF).enc m.trans] 30 0 false)).new (.blk [.nilS,.nilS] 35 0 false)).put 2 (.blk [(AA AJ).enc s.locs,(AA AJ).enc s.vals] 35 0 false)).new (.blk [.nilS,.nilS] 35 0 false)).put 3 (.blk [(AA AJ).enc t.locs,(AA AJ).enc t.vals] 35 0 false):=⟨_,rfl⟩
 have hTn:T.n=4:=by rw [hT];simp only [A9,Aa,BD]
 have hT1:T.get 1=some (.blk [(AA Az).enc m.vars,(AA BH).enc m.procs,(AA BF).enc m.trans] 30 0 false):=by
  rw [hT];simp (disch:=omega) only [St.zAg,St.zAe,Aa,A9,BD,if_neg,if_true,eq_self]
 have hT2:T.get 2=some (.blk [(AA AJ).enc s.locs,(AA AJ).enc s.vals] 35 0 false):=by
  rw [hT];simp (disch:=omega) only [St.zAg,St.zAe,Aa,A9,BD,if_neg,if_true,eq_self]
 have hT3:T.get 3=some (.blk [(AA AJ).enc t.locs,(AA AJ).enc t.vals] 35 0 false):=by
  rw [hT];simp (disch:=omega) only [St.zAg,St.zAe,Aa,A9,BD,if_neg,if_true,eq_self]
 have e0:V.agg [(AA Az).enc m.vars,(AA BH).enc m.procs,(AA BF).enc m.trans]=AP.enc m:=rfl;have es:V.agg [(AA AJ).enc s.locs,(AA AJ).enc s.vals]=Af.enc s:=rfl;have et:V.agg [(AA AJ).enc t.locs,(AA AJ).enc t.vals]=Af.enc t:=rfl;obtain ⟨σe,he⟩:=vL h (k:=k) m hm s hs1 bent raw hraw any T hTn hT1 hT2;generalize hw:t4 call k [EP.enc x,(AA AJ).enc l,(AA AJ).enc o,.int .i64 how,(AA AJ).enc bent,.str raw,.bool any] .empty=w;unfold t4 t4_1 at hw;cases hr1:(m.right&&m.fits s) with
 | false =>
  rw [hr1] at k4 k5;simp (disch:=first | omega | (simp (disch:=omega) only [St.zAg,St.zAe,Aa,A9,BD,if_neg,if_true,eq_self];done) | first | exact dD _ | assumption) only [↓reduceIte,↓rK,rO,AL,Nat.reduceAdd,Nat.reduceEqDiff,Mi,k1,k2,hst,k3l,k3o,ht1,ht2,k4,k5,k6,k7,k8,k9,Lr,<-hT,hT1,hT2,hT3,e0,es,et,he] at hw;exact ⟨_,hw.symm⟩
 | true =>
  rw [hr1] at k4 k5;rw [Bool.and_eq_true] at hr1;have hlp:=vK h (k:=k) m hm s hs1 hr1.1 hr1.2 ((AA AJ).enc bent) (.str raw) (.bool any) T (by have:=hm.procs;omega) hT1 hT2;simp (disch:=first | omega | (simp (disch:=omega) only [St.zAg,St.zAe,Aa,A9,BD,if_neg,if_true,eq_self];done) | first | exact dD _ | assumption) only [↓reduceIte,↓rK,rO,AL,Nat.reduceAdd,Nat.reduceEqDiff,Mi,k1,k2,hst,k3l,k3o,ht1,ht2,k4,k5,k6,k7,k8,k9,Lr,<-hT,hT1,hT2,hT3,e0,es,et,hlp,he] at hw;exact ⟨_,hw.symm⟩
theorem aO:env.G 3=some [.opq]:=by kernel_rfl
theorem aN:env.G 4=some [.opq]:=by kernel_rfl
theorem uX {call:SS.Call} {k:Nat} (h: ∀ (s:B) τ,s.length<3000000->call 120 [.str s] τ=some (.str s,τ)) (f s:B) (hs:s.length<3000000) (τ:St) :
 t94 call k [.str f,.str s] τ=some (.ptr τ.n 0 0,τ.new (.blk [.str f,.str s,.opq] 173 0 false)):=by
 have q:=λτ=>h s τ hs
 have hld:=λ(σ:St) (K:V->Option (AEx×List V×St))=>H6 (n:=0) (off:=0) aO rfl rfl σ K
 unfold t94;simp (disch:=try exact dD _) only [↓rK,rO,AL,q,hld,↓BA,BA];rfl
theorem qL {call:SS.Call} {k:Nat} (h: ∀ (s:B) τ,s.length<3000000->call 120 [.str s] τ=some (.str s,τ)) (f s:B) (hs:s.length<3000000) (τ:St) :
 t95 call k [.str f,.str s] τ=some (.ptr τ.n 0 0,τ.new (.blk [.str f,.str s,.opq] 173 0 false)):=by
 have q:=λτ=>h s τ hs
 have hld:=λ(σ:St) (K:V->Option (AEx×List V×St))=>H6 (n:=0) (off:=0) aN rfl rfl σ K
 unfold t95;simp (disch:=try exact dD _) only [↓rK,rO,AL,q,hld,↓BA,BA];rfl
theorem vU {call:SS.Call} {k:Nat} (f s:B) (τ:St) {v:V} {τ':St} (h1:call 94 [.str f,.str s] τ=some (v,τ')) (h2:call 95 [.str f,.str s] τ=some (v,τ')) (e:V) (he:e=.ifc 134 (.int .i64 2)\/e=.ifc 134 (.int .i64 1)) :
 t69 call k [.str f,.str s,.int .i64 0,.int .i64 0,e] τ=some (.ifc 137 v,τ'):=by
 have b1: ∀ a b:Go.Operand,CW env .eql 80 a b (.ifc 134 (.int .i64 2)) (.ifc 134 (.int .i64 2)) τ=some (.bool true):=λa b=>by kernel_rfl
 have b2: ∀ a b:Go.Operand,CW env .eql 80 a b (.ifc 134 (.int .i64 1)) (.ifc 134 (.int .i64 2)) τ=some (.bool false):=λa b=>by kernel_rfl
 have b3: ∀ a b:Go.Operand,CW env .eql 80 a b (.ifc 134 (.int .i64 1)) (.ifc 134 (.int .i64 1)) τ=some (.bool true):=λa b=>by kernel_rfl
 unfold t69;rcases he with rfl | rfl
 ·simp (disch:=try exact dD _) only [↓reduceIte,↓rK,rO,AL,b1,h1]
 ·simp (disch:=try exact dD _) only [↓reduceIte,↓rK,rO,AL,b2,b3,h2]
theorem Yq {call:SS.Call} {k:Nat} {num:B->Int} {err:B->V} (s:B) (τ:St) (h:call 68 [.str s] τ=some (.tup [.int .i64 (num s),err s],τ)) {v:V} {τ':St} (h1:err s≠.if0->call 69 [.str [65,116,111,105],.str s,.int .i64 0,.int .i64 0,err s] τ=some (.ifc 137 v,τ'))
 (he:err s=.if0\/∃ x,err s=.ifc 134 x):t44 call k [.str s] τ=some (.tup [.int .i64 (num s),.if0],τ)\/t44 call k [.str s] τ=some (.tup [.int .i64 (num s),.ifc 137 v],τ'):=by
 unfold t44;rcases he with he | ⟨x,he⟩
 ·left;rw [he] at h;simp (disch:=try exact dD _) only [↓rK,rO,h,ifK];rfl
 ·right;have h1:=h1 (by rw [he];intro e;cases e);rw [he] at h h1;simp (disch:=try exact dD _) only [↓rK,rO,h,h1,ifK];rfl
end Go.Proofs.YtglndmmlghpdpaaGreatDoor
namespace Go.Proofs.YtglndmmlghpdpaaGreatDoor
open Go Go.Proofs Go.Shelf Go.RowKit
set_option maxRecDepth 100000
def q9:Go.Shelf.Ren:={ f:=λx=>match x with | 244=>68 | 247=>93 | 287=>119 | 321=>144 | 322=>145 | n=>n,t:=λx=>match x with | 9=>9 | 3=>3 | 75=>80 | 4=>4 | 5=>5 | 167=>134 | 37=>102 | 0=>0 | 85=>135 | 2=>2 | 53=>131 | 175=>168 | 46=>170 | 21=>21 | 80=>106 | n=>n,g:=λx=>have n:=x;n }
theorem lY:LaysC.n244 Tryz.prog q9:=by repeat' first | kernel_rfl | constructor | intro _
theorem Ob (d:Nat) (h:d<10):(UInt8.ofNat (48+d)).toNat=48+d:=by
 have:=SS.OD d h;unfold SS.by8 at this;omega
theorem U1: ∀ (ds:List Nat) (acc:Nat),(∀ d∈ds,d<10)->(acc+1)*10 ^ ds.length<=1000000000000->Lib.parseUint10 acc (ds.map λd=>UInt8.ofNat (48+d))=.ok (ds.foldl (λa d=>10*a+d) acc)
 | [],acc,_,_=>rfl
 | d :: r,acc,h,hb=>by
  have hd:=h d (by simp);have e1:(d :: r).length=r.length+1:=rfl;rw [e1,Nat.pow_succ,Nat.mul_comm (10 ^ r.length) 10,<-Nat.mul_assoc] at hb;have hp:1<=10 ^ r.length:=Nat.pos_of_ne_zero (by simp);have hs:(acc+1)*10<=(acc+1)*10*10 ^ r.length:=Nat.le_mul_of_pos_right _ hp;have ih:=U1 r (acc*10+d) (λx hx=>h x (by simp [hx])) (Nat.le_trans (Nat.mul_le_mul_right _ (by omega)) hb);show Lib.parseUint10 acc (UInt8.ofNat (48+d) :: r.map λd=>UInt8.ofNat (48+d))=_;unfold Lib.parseUint10;rw [Ob d hd,if_pos (by omega),if_neg (by omega),if_neg (by omega),show 48+d - 48=d by omega,ih,List.foldl_cons,Nat.mul_comm 10 acc]
theorem RO (n:Nat) (hn:n<1000):Lib.parseMag (SS.Bp n)=.ok n/\∃ c r,SS.Bp n=c :: r/\c.toNat≠43/\c.toNat≠45:=by
 obtain ⟨ds,h1,h2,h3,h4,h5⟩:=SS.Me n hn
 match ds,h2 with
 | d :: r,_ =>
  have hd:=h1 d (by simp);have hb:(0+1)*10 ^ (d :: r).length<=1000000000000:=by
   have:10 ^ (d :: r).length<=10 ^ 3:=Nat.pow_le_pow_right (by omega) h3;omega
  have hp:=U1 (d :: r) 0 h1 hb;refine ⟨?_,_,_,h4,by rw [Ob d hd];omega,by rw [Ob d hd];omega⟩;rw [h4];unfold Lib.parseMag;rw [if_neg (by simp),hp,h5]
theorem Yt (k:Int) (h1: -999<=k) (h2:k<=999):Lib.atoiAll (SS.BK k)=.ok k:=by
 unfold SS.BK;by_cases h:k<0
 ·rw [if_pos h];obtain ⟨e,c,r,e2,_⟩:=RO (-k).toNat (by omega);rw [e2] at e ⊢;unfold Lib.atoiAll;simp only [show (45:UInt8).toNat=45 from rfl,or_true,if_true,e,not_true,false_and,if_false,true_and];rw [if_neg (by omega)]
  congr 1
  omega
 ·rw [if_neg h];obtain ⟨e,c,r,e2,e3,e4⟩:=RO k.toNat (by omega);rw [e2] at e ⊢;unfold Lib.atoiAll;simp only [eq_false e3,eq_false e4,or_self,if_false,e,not_false_eq_true,true_and,false_and];rw [if_neg (by omega)]
  congr 1
  omega
def rA:Go.Shelf.Ren:={ f:=λx=>match x with | 316=>120 | n=>n,t:=λx=>match x with | 9=>9 | 3=>3 | 4=>4 | 37=>102 | 0=>0 | 127=>125 | 5=>5 | n=>n,g:=λx=>have n:=x;n }
theorem lZ:LaysM.n316 Tryz.prog rA:=by repeat' first | kernel_rfl | constructor | intro _
def Ep (s:SS.B):Int:=match Lib.atoiAll s with
 | .ok v=>v
 | .range=>Lib.atoiSat s
 | _=>0
def Ej (s:SS.B):SS.V:=match Lib.atoiAll s with
 | .ok _=>.if0
 | .range=>.ifc 134 (.int .i64 1)
 | _=>.ifc 134 (.int .i64 2)
theorem Ls (s:SS.B):Ej s=.if0\/Ej s=.ifc 134 (.int .i64 2)\/Ej s=.ifc 134 (.int .i64 1):=by
 unfold Ej
 split
 ·exact .inl rfl
 ·exact .inr (.inr rfl)
 ·exact .inr (.inl rfl)
theorem Sr (s:SS.B):(SS.V.tup [.int .i64 (Ep s),Ej s]).kind=0:=by
 rcases Ls s with h | h | h<;>rw [h]<;>rfl
theorem kX:SS.Ag env 68 (SS.BS SS.AC SS.tV0 (λs=>s.length<3000000) (λs=>⟨.tup [.int .i64 (Ep s),Ej s],Sr s⟩)):=by
 refine SS.MI (c:=SS.Gu Tryz.f68) Tryz.func68 (by kernel_rfl) (by kernel_rfl) λws u hg=>?_
 obtain ⟨x,y,h1,rfl,rfl⟩:=SS.Mx hg;obtain ⟨p1,rfl⟩:=SS.Ir h1;refine ⟨(by show (SS.V.tup [.int .i64 (Ep x),Ej x]).scal=true;rcases Ls x with h | h | h<;>rw [h]<;>rfl),λw vs' hgo hv=>?_⟩;cases hv with
 | cons _ v' _ _ h2 h3 =>
  cases h2;cases h3;have p1:x.length<3000000:=p1;refine (Any.internal_strconv_Atoi_all lY ⟨x.toArray⟩ (by have e:(⟨x.toArray⟩:ByteArray).size=x.length:=(by show x.toArray.size=_;simp);omega) w).mono λe w' he=>?_
  obtain ⟨rfl,hw⟩:=he;have hx:(⟨x.toArray⟩:ByteArray).data.toList=x:=rfl;rw [hx];refine ⟨_,rfl,?_,?_⟩
  ·show SS.VR _ _ (.tup [.int .i64 (Ep x),Ej x]) _;unfold Ep Ej;cases Lib.atoiAll x with
   | ok v=>exact .tup _ _ (.cons _ _ _ _ (.int _ _) (.cons _ _ _ _ .if0 .nil))
   | range=>exact .tup _ _ (.cons _ _ _ _ (.int _ _) (.cons _ _ _ _ (.ifc _ _ _ (.int _ _)) .nil))
   | _=>exact .tup _ _ (.cons _ _ _ _ (.int _ _) (.cons _ _ _ _ (.ifc _ _ _ (.int _ _)) .nil))
  ·rcases hw with rfl | ⟨t,rfl⟩
   ·exact Below.refl _ _
   ·exact Lib.bytesWorld_below _ _ _
theorem kY:SS.Ag env 120 (SS.BS SS.AC SS.AC (λs=>s.length<3000000) (λs=>s)):=by
 refine SS.MI (c:=SS.Gu Tryz.f120) Tryz.func120 (by kernel_rfl) (by kernel_rfl) λws u hg=>?_
 obtain ⟨x,y,h1,rfl,rfl⟩:=SS.Mx hg;obtain ⟨p1,rfl⟩:=SS.Ir h1;refine ⟨rfl,λw vs' hgo hv=>?_⟩;cases hv with
 | cons _ v' _ _ h2 h3 =>
  cases h2;cases h3;have p1:y.length<3000000:=p1;refine (Any.stringslite_Clone lZ ⟨y.toArray⟩ w (by have e:(⟨y.toArray⟩:ByteArray).size=y.length:=(by show y.toArray.size=_;simp);omega)).mono λe w' he=>?_
  obtain ⟨rfl,hb⟩:=he;exact ⟨_,rfl,.str y,hb⟩
theorem Ua (k:Int) (h1: -999<=k) (h2:k<=999):Ep (SS.BK k)=k:=by unfold Ep;rw [Yt k h1 h2]
end Go.Proofs.YtglndmmlghpdpaaGreatDoor
namespace Go.Proofs.YtglndmmlghpdpaaGreatDoor
open Go SS
set_option maxRecDepth 100000
noncomputable section
theorem Rt {lm:List (FuncId×Ac)} {lt:List (FuncId×CK)} {f:FuncId} {e:Ext} (h1:AV lm f=none) (h2:pu f=false) (h3:env.extn f=some e) (k:Nat) (vs:List V) (σ:St):AY env pu (AV lm) (AX lt) (k+1) f vs σ=JE e vs σ:=by
 show (match AV lm f with | some g=>_ | none=>_)=_;rw [h1];simp only [h2,h3,Bool.false_eq_true,if_false]
theorem Rh {t:B} (h:t.length=1): ∃ c,t=[c]:=by
 match t,h with
 | [c],_=>exact ⟨c,rfl⟩
def S_40:Ac:=Bt (AA AJ) (AA AJ) BB (λa b=>a.length<1000000/\b.length<1000000) (λa b=>decide (a=b))
theorem K_40:Ag env 40 S_40:=kc2 (lm:=L_67) (lt:=[]) Ar M_67 Au iQ λa b h=>by
 have hl:=h.1;have e:=aL (call:=AY env pu (AV L_67) (AX []) 1) (k:=2000000) a b h.1 h.2 (by omega) .empty;exact ⟨1,2000000,_,_,e,BV (t:=BB)⟩
def L_68:LT:=(40,S_40) :: L_67
theorem M_68:MO L_68:=Ap K_40 M_67
def S_18:Ac:=Bt Af Af BB (λa b=>BX a/\BX b) (λa b=>decide (a=b))
theorem K_18:Ag env 18 S_18:=kc2 (lm:=L_68) (lt:=[]) Ar M_68 Au gV λa b h=>by
 obtain ⟨σ,e⟩:=sH (call:=AY env pu (AV L_68) (AX []) 1) (k:=2000000) (λa b τ h1 h2=>AU.c2 (aq L_68 40 S_40 rfl) (x:=a) (y:=b) ⟨h1,h2⟩ τ) a b h.1 h.2;exact ⟨1,2000000,_,σ,e,BV (t:=BB)⟩
def L_69:LT:=(18,S_18) :: L_68
theorem M_69:MO L_69:=Ap K_18 M_68
def S_23:Ac:=BS AP Af Ae (λm=>if m.right then DP m else ⟨[],[]⟩)
theorem K_23:Ag env 23 S_23:=kc1 (lm:=L_69) (lt:=[]) Ar M_69 Au iA λm h=>by
 have hl:=h.vars;obtain ⟨v,σ,e1,e2⟩:=eT (call:=AY env pu (AV L_69) (AX []) 1) (k:=2000000) (λm τ h=>AU.c1 (aq L_69 36 S_36 rfl) (x:=m) h τ) m h (by omega);exact ⟨1,2000000,v,σ,e1,e2⟩
def L_70:LT:=(23,S_23) :: L_69
theorem M_70:MO L_70:=Ap K_23 M_69
def S_92:Ac:=Bt AC AC AJ (λs _=>s.length<4000000) (λs t=>Dm t s 0)
theorem K_92:Ag env 92 S_92:=kc2 (lm:=L_70) (lt:=[]) Ar M_70 Au kG λs t h=>by
 have e:=eG (call:=AY env pu (AV L_70) (AX []) 1) (k:=2000000) (λs t τ h=>by
  rw [Rt (e:=.indexStr 6) (by kernel_rfl) (by kernel_rfl) (by kernel_rfl)];show (if Nat.blt s.length 4294967281 then some (V.int .i64 (Dm t s 0),τ) else none)=_;rw [if_pos (by rw [Nat.blt_eq];omega)]) s t h .empty
 exact ⟨1,2000000,_,_,e,BV (t:=AJ)⟩
def L_71:LT:=(92,S_92) :: L_70
theorem M_71:MO L_71:=Ap K_92 M_70
def S_91:Ac:=Bt AC AC AJ (λ_ t=>t.length=1) (λs t=>(D3 (by8 (t.headD 0)) s:Int))
theorem K_91:Ag env 91 S_91:=kc2 (lm:=L_71) (lt:=[]) Ar M_71 Au kF λs t h=>by
 obtain ⟨c,rfl⟩:=Rh h;have e:=Zb (call:=AY env pu (AV L_71) (AX []) 1) (k:=2000000) (λs c τ=>by
  rw [Rt (e:=.countStr) (by kernel_rfl) (by kernel_rfl) (by kernel_rfl)];show (if Nat.blt c.toNat 256 then some (V.int .i64 (D3 (by8 c) s),τ) else none)=_;rw [if_pos (by rw [Nat.blt_eq];exact c.toNat_lt)]) s c .empty
 exact ⟨1,2000000,_,_,e,BV (t:=AJ)⟩
def L_72:LT:=(91,S_91) :: L_71
theorem M_72:MO L_72:=Ap K_91 M_71
def KT:Ac:=λws=>match ws with
 | [.str s,.str [c],.int .i64 (.ofNat 0),.int .i64 (.negSucc 0)]=>if s.length<1900000 then some ((AA AC).enc (cut c s)) else none
 | _=>none
theorem kZ:Ag env 67 KT:=by
 refine Jd (mem:=AV L_72) (txt:=AX []) Ar M_72 Au jP λws u hg=>?_
 unfold KT at hg;split at hg
 ·rename_i s c;split at hg
  ·rename_i hs;cases hg;obtain ⟨v,σ,e1,e2⟩:=cO (call:=AY env pu (AV L_72) (AX []) 1) (k:=2000000) (λs t τ h=>AU.c2 (aq L_72 92 S_92 rfl) (x:=s) (y:=t) h τ) (λs c τ=>AU.c2 (aq L_72 91 S_91 rfl) (x:=s) (y:=[c]) rfl τ) s c (by omega) (by omega);exact ⟨1,2000000,v,σ,e1,e2⟩
  ·cases hg
 ·cases hg
def S_67:Ac:=KT
theorem K_67:Ag env 67 S_67:=kZ
def L_73:LT:=(67,S_67) :: L_72
theorem M_73:MO L_73:=Ap K_67 M_72
def S_42:Ac:=Bt AC AC (AA AC) (λs t=>s.length<1900000/\t.length=1) (λs t=>cut (t.headD 0) s)
theorem K_42:Ag env 42 S_42:=kc2 (lm:=L_73) (lt:=[]) Ar M_73 Au iT λs t h=>by
 obtain ⟨c,rfl⟩:=Rh h.2;have hA:AU env (AY env pu (AV L_73) (AX []) 1) 67 KT:=aq L_73 _ S_67 rfl;have e:=tU (call:=AY env pu (AV L_73) (AX []) 1) (k:=2000000) (λs c τ h=>by
  have q:KT [.str s,.str [c],.int .i64 0,.int .i64 (-1)]=some ((AA AC).enc (cut c s)):=by
   show (if s.length<1900000 then some ((AA AC).enc (cut c s)) else none)=_;rw [if_pos h]
  have hz:Bd env τ [.str s,.str [c],.int .i64 0,.int .i64 (-1)]=some [.str s,.str [c],.int .i64 0,.int .i64 (-1)]:=G9 rfl;exact hA hz q rfl) s c h.1 .empty
 exact ⟨1,2000000,_,_,e,BV (t:=AA AC)⟩
def L_74:LT:=(42,S_42) :: L_73
theorem M_74:MO L_74:=Ap K_42 M_73
def S_68:Ac:=BS AC tV0 (λs=>s.length<3000000) (λs=>⟨.tup [.int .i64 (Ep s),Ej s],Sr s⟩)
theorem K_68:Ag env 68 S_68:=kX
def L_75:LT:=(68,S_68) :: L_74
theorem M_75:MO L_75:=Ap K_68 M_74
def S_120:Ac:=BS AC AC (λs=>s.length<3000000) (λs=>s)
theorem K_120:Ag env 120 S_120:=kY
def L_76:LT:=(120,S_120) :: L_75
theorem M_76:MO L_76:=Ap K_120 M_75
def GK:List (FuncId×CK):=[(44,t44),(69,t69),(94,t94),(95,t95)]
theorem wF:Dy env pu (AX GK):=Dg iV (Dg jQ (Dg kH (Dg kI Au)))
theorem Yr (s:B) (τ:St) (hs:s.length<3000000): ∃ e τ',AY env pu (AV L_76) (AX GK) 4 44 [.str s] τ=some (.tup [.int .i64 (Ep s),e],τ')/\e.one=true/\CS τ τ':=by
 have hc: ∀ (s:B) τ,s.length<3000000->AY env pu (AV L_76) (AX GK) 1 120 [.str s] τ=some (.str s,τ):=λs τ h=>AU.c1 (show AU env _ 120 S_120 from Bj rfl (Nat.le_refl 1)) (x:=s) h τ
 have h1:AY env pu (AV L_76) (AX GK) 2 94 [.str [65,116,111,105],.str s] τ=some (.ptr τ.n 0 0,τ.new (.blk [.str [65,116,111,105],.str s,.opq] 173 0 false)):=by
  rw [DD (t:=t94) (by kernel_rfl) (by kernel_rfl) (by kernel_rfl) rfl];exact uX hc _ s hs τ
 have h2:AY env pu (AV L_76) (AX GK) 2 95 [.str [65,116,111,105],.str s] τ=some (.ptr τ.n 0 0,τ.new (.blk [.str [65,116,111,105],.str s,.opq] 173 0 false)):=by
  rw [DD (t:=t95) (by kernel_rfl) (by kernel_rfl) (by kernel_rfl) rfl];exact qL hc _ s hs τ
 have h3:Ej s≠.if0->AY env pu (AV L_76) (AX GK) 3 69 [.str [65,116,111,105],.str s,.int .i64 0,.int .i64 0,Ej s] τ=some (.ifc 137 (.ptr τ.n 0 0),τ.new (.blk [.str [65,116,111,105],.str s,.opq] 173 0 false)):=λhne=>by
  rw [DD (t:=t69) (by kernel_rfl) (by kernel_rfl) (by kernel_rfl) rfl];exact vU _ s τ h1 h2 _ ((Ls s).resolve_left hne)
 have h0:AY env pu (AV L_76) (AX GK) 3 68 [.str s] τ=some (.tup [.int .i64 (Ep s),Ej s],τ):=AU.c1 (show AU env _ 68 S_68 from Bj rfl (by omega)) (x:=s) hs τ;rcases Yq (k:=3) s τ h0 h3 (by rcases Ls s with h | h | h;exact .inl h;exact .inr ⟨_,h⟩;exact .inr ⟨_,h⟩) with h | h
 ·exact ⟨_,_,by rw [DD (t:=t44) (by kernel_rfl) (by kernel_rfl) (by kernel_rfl) rfl];exact h,rfl,CS.refl τ⟩
 ·exact ⟨_,_,by rw [DD (t:=t44) (by kernel_rfl) (by kernel_rfl) (by kernel_rfl) rfl];exact h,rfl,by rw [Aa];omega,λc hc=>by rw [St.zAe,if_neg (by omega)]⟩
def S_21:Ac:=Bt AP AC (DV Af BB) (λm t=>Ae m/\t.length<1200000) (λm t=>Dc Ep m t)
theorem K_21:Ag env 21 S_21:=kc2 (lm:=L_76) (lt:=GK) Ar M_76 wF gY λm t h=>by
 have hl:=h.2;have q: ∀ {f g},AV L_76 f=some g->AU env (AY env pu (AV L_76) (AX GK) 4) f g:=λh=>Bj h (by omega)
 have hA:Na (AY env pu (AV L_76) (AX GK) 4) Ep (λw=>w.length<3000000) :=
  ⟨λm τ h=>AU.c1 (show AU env _ 36 S_36 from q rfl) (x:=m) h τ,λm v s τ hz h1 h2=>AU.f2 (show AU env _ 12 S_12 from q rfl) (x:=m) (y:=s) ⟨h1,h2⟩ hz (.inr rfl),λm v s τ hz h1 h2=>AU.f2 (show AU env _ 11 S_11 from q rfl) (x:=m) (y:=s) ⟨h1,h2⟩ hz (.inr rfl),λs c τ h=>AU.c2 (show AU env _ 42 S_42 from q rfl) (x:=s) (y:=[c]) ⟨h,rfl⟩ τ,λl s τ h=>AU.c2 (show AU env _ 43 S_43 from q rfl) (x:=l) (y:=s) h τ,λs τ h=>Yr s τ h⟩
 obtain ⟨v,σ,e1,e2⟩:=uB hA (k:=2000000) m t h.1 h.2 (λ_ _ w hw=>by have:=KL 32 t w (List.mem_of_mem_drop hw);omega) (by omega);exact ⟨4,2000000,v,σ,e1,e2⟩
def L_77:LT:=(21,S_21) :: L_76
theorem M_77:MO L_77:=Ap K_21 M_76
theorem Ug: ∃ F:AQ×List Int×Int->BG,∀ x,(Ae x.1/\(∀ p∈x.1.procs,1<=p.locs.length)/\x.1.vars.length<900000)->(∃ v σ,t15 (AY env pu (AV L_77) (AX []) 1) 2000000 [AP.enc x.1,(AA AJ).enc x.2.1,.int .i64 x.2.2] .empty=some (v,σ)/\Bn env σ v (Af.enc (F x)))/\BX (F x) :=
 Eh (P:=λx:AQ×List Int×Int=>Ae x.1/\(∀ p∈x.1.procs,1<=p.locs.length)/\x.1.vars.length<900000) (R:=λx r=>(∃ v σ,t15 (AY env pu (AV L_77) (AX []) 1) 2000000 [AP.enc x.1,(AA AJ).enc x.2.1,.int .i64 x.2.2] .empty=some (v,σ)/\Bn env σ v (Af.enc r))/\BX r) λx hx=>by
  obtain ⟨m,l,n⟩:=x;obtain ⟨h1,h2,h3⟩:=hx;have l1:m.procs.length<1000000:=h1.procs;obtain ⟨v,σ,s,e1,e2,e3,e4⟩:=oO (call:=AY env pu (AV L_77) (AX []) 1) (k:=2000000) (λn q τ h1 h2=>AU.c2 (aq L_77 33 S_33 rfl) (x:=n) (y:=q) ⟨h1,h2⟩ τ) m l n h1 h2 (by omega) (by have:m.vars.length<900000:=h3;omega) h3;exact ⟨s,⟨v,σ,e1,.inr ⟨e2,e3⟩⟩,e4⟩
def onF:AQ×List Int×Int->BG:=Ug.choose
theorem Ud: ∀ x,(Ae x.1/\(∀ p∈x.1.procs,1<=p.locs.length)/\x.1.vars.length<900000)->(∃ v σ,t15 (AY env pu (AV L_77) (AX []) 1) 2000000 [AP.enc x.1,(AA AJ).enc x.2.1,.int .i64 x.2.2] .empty=some (v,σ)/\Bn env σ v (Af.enc (onF x)))/\BX (onF x):=Ug.choose_spec
def S_15:Ac:=Jt AP (AA AJ) AJ Af (λm _ _=>Ae m/\(∀ p∈m.procs,1<=p.locs.length)/\m.vars.length<900000) (λm l n=>onF (m,l,n))
theorem K_15:Ag env 15 S_15:=kc3 (lm:=L_77) (lt:=[]) Ar M_77 Au gN λm l n h=>by
 obtain ⟨v,σ,e1,e2⟩:=(Ud (m,l,n) h).1;exact ⟨1,2000000,v,σ,e1,e2⟩
def L_78:LT:=(15,S_15) :: L_77
theorem M_78:MO L_78:=Ap K_15 M_77
def S_26:Ac:=sp0 AP (some Dr)
theorem K_26:Ag env 26 S_26:=Tw (lm:=L_78) (lt:=[]) Ar M_78 Au iC λy hy=>by
 cases hy;obtain ⟨v,σ,e1,e2⟩:=wC (AY env pu (AV L_78) (AX []) 1) 1;exact ⟨1,1,v,σ,e1,e2⟩
def L_79:LT:=(26,S_26) :: L_78
theorem M_79:MO L_79:=Ap K_26 M_78
def S_6:Ac:=sp0 BB (some true)
theorem K_6:Ag env 6 S_6:=Tw (lm:=L_79) (lt:=[]) Ar M_79 Au jK λy hy=>by
 cases hy;have hs:BX Cs:=⟨by decide,by decide⟩
 have hA:Qw (AY env pu (AV L_79) (AX []) 1) :=
  ⟨λτ=>AU.at0 (c:=AP) (F:=some Dr) (aq L_79 _ S_26 rfl) rfl τ,λτ=>by
   have:=AU.c2 (aq L_79 21 S_21 rfl) (x:=Dr) (y:=Bu Dr Cs) ⟨QZ,by rw [WB];decide⟩ τ;rw [Pt Ua WC WA] at this;exact this,
   λv τ hk hz=>AU.f2 (aq L_79 11 S_11 rfl) (x:=Dr) (y:=Cs) ⟨QZ,hs⟩ (KS (AP.zero _) hz hk) (.inr rfl),
   λv τ hk hz=>by
    have:=AU.f2 (aq L_79 18 S_18 rfl) (x:=Cs) (y:=Cs) ⟨hs,hs⟩ (KS (Af.zero _) hz hk) (.inr rfl);rw [decide_eq_true rfl] at this;exact this,
   λv τ hk hz=>by
    have:=AU.f2 (aq L_79 12 S_12 rfl) (x:=Dr) (y:=Cs) ⟨QZ,hs⟩ (KS (AP.zero _) hz hk) (.inr rfl);rw [WC,WA] at this;exact this⟩
 obtain ⟨σ,e⟩:=lQ hA 1;exact ⟨1,1,_,σ,e,BV (t:=BB) (x:=true)⟩
def L_80:LT:=(6,S_6) :: L_79
theorem M_80:MO L_80:=Ap K_6 M_79
def S_41:Ac:=Bt (AA AJ) (AA AJ) BB (λa b=>a.length<1000000/\b.length<1000000) (λa b=>decide (a=b))
theorem K_41:Ag env 41 S_41:=kc2 (lm:=L_80) (lt:=[]) Ar M_80 Au iR λa b h=>by
 have hl:=h.1;have e:=aM (call:=AY env pu (AV L_80) (AX []) 1) (k:=2000000) a b h.1 h.2 (by omega) .empty;exact ⟨1,2000000,_,_,e,BV (t:=BB)⟩
def L_81:LT:=(41,S_41) :: L_80
theorem M_81:MO L_81:=Ap K_41 M_80
def S_19:Ac:=Bt Af Af BB (λa b=>BX a/\BX b) (λa b=>decide (a=b))
theorem K_19:Ag env 19 S_19:=kc2 (lm:=L_81) (lt:=[]) Ar M_81 Au gW λa b h=>C8 (k:=1) (k':=2000000) (sI (λa b τ h1 h2=>AU.c2 (aq L_81 41 S_41 rfl) (x:=a) (y:=b) ⟨h1,h2⟩ τ) a b h.1 h.2)
def L_82:LT:=(19,S_19) :: L_81
theorem M_82:MO L_82:=Ap K_19 M_81
def S_38:Ac:=Bt AP Af BB (λm s=>Ae m/\BX s) (λm s=>m.fits s)
theorem K_38:Ag env 38 S_38:=kc2 (lm:=L_82) (lt:=[]) Ar M_82 Au iM λm s h=>C8 (k:=1) (k':=2000000) (bM m s h.1 h.2 (by have:=h.1.procs;omega) (by have:=h.1.vars;omega))
def L_83:LT:=(38,S_38) :: L_82
theorem M_83:MO L_83:=Ap K_38 M_82
def S_16:Ac:=Bt AP Af BB (λm s=>Ae m/\BX s) (λm s=>m.right&&m.fits s)
theorem K_16:Ag env 16 S_16:=kc2 (lm:=L_83) (lt:=[]) Ar M_83 Au gR λm s h=>C8 (k:=1) (k':=2000000) (rJ (λm τ h=>AU.c1 (aq L_83 8 S_8 rfl) (x:=m) h τ) (λm s τ h1 h2=>AU.c2 (aq L_83 38 S_38 rfl) (x:=m) (y:=s) ⟨h1,h2⟩ τ) m s h.1 h.2)
def L_84:LT:=(16,S_16) :: L_83
theorem M_84:MO L_84:=Ap K_16 M_83
def S_39:Ac:=Bt AP Af AC (λm s=>Ae m/\m.right=true/\m.fits s=true) Bu
theorem K_39:Ag env 39 S_39:=kc2 (lm:=L_84) (lt:=[]) Ar M_84 Au iO λm s h=>C8 (k:=1) (k':=2000000) (vM (λn τ h1 h2=>AU.c1 (aq L_84 66 S_66 rfl) (x:=n) ⟨by omega,by omega⟩ τ) m s h.1 h.2.1 h.2.2 (by omega))
def L_85:LT:=(39,S_39) :: L_84
theorem M_85:MO L_85:=Ap K_39 M_84
def S_17:Ac:=Bt AP Af AC (λm s=>Ae m/\BX s) Bu
theorem K_17:Ag env 17 S_17:=kc2 (lm:=L_85) (lt:=[]) Ar M_85 Au gU λm s h=>C8 (k:=1) (k':=2000000) (qB (λm s τ h1 h2=>AU.c2 (aq L_85 16 S_16 rfl) (x:=m) (y:=s) ⟨h1,h2⟩ τ) (λm s τ h1 h2 h3=>AU.c2 (aq L_85 39 S_39 rfl) (x:=m) (y:=s) ⟨h1,h2,h3⟩ τ) m s h.1 h.2)
def L_86:LT:=(17,S_17) :: L_85
theorem M_86:MO L_86:=Ap K_17 M_85
def S_22:Ac:=Bt AP AC (DV Af BB) (λm t=>Ae m/\t.length<1200000) (λm t=>Dc amN m t)
theorem K_22:Ag env 22 S_22:=kc2 (lm:=L_86) (lt:=[]) Ar M_86 Au gZ λm t h=>by
 have hl:=h.2;have hA:LK (AY env pu (AV L_86) (AX []) 1) :=
  ⟨λm τ h=>AU.c1 (aq L_86 8 S_8 rfl) (x:=m) h τ,λm v s τ hz h1 h2=>AU.f2 (aq L_86 38 S_38 rfl) (x:=m) (y:=s) ⟨h1,h2⟩ hz (.inr rfl),λm v s τ hz h1 h2 h3=>AU.f2 (aq L_86 39 S_39 rfl) (x:=m) (y:=s) ⟨h1,h2,h3⟩ hz (.inr rfl),λs c τ h=>OT (Bj (f:=10) (g:=S_10) rfl (Nat.le_refl 1)) s c τ h,λm p s τ h1 h2=>AU.c3 (aq L_86 45 S_45 rfl) (x:=m) (y:=p) (z:=s) ⟨h1,h2⟩ τ,λs τ h=>AU.c2 (aq L_86 37 S_37 rfl) (x:=s) (y:=true) h τ⟩
 obtain ⟨v,σ,e1,e2⟩:=o5 hA (k:=2000000) m t h.1 (by omega) (by omega);exact ⟨1,2000000,v,σ,e1,e2⟩
def L_87:LT:=(22,S_22) :: L_86
theorem M_87:MO L_87:=Ap K_22 M_86
def S_24:Ac:=BS AP Af Ae DP
theorem K_24:Ag env 24 S_24:=kc1 (lm:=L_87) (lt:=[]) Ar M_87 Au iB λm h=>by
 have hl:=h.vars;obtain ⟨v,σ,e1,e2⟩:=eP (call:=AY env pu (AV L_87) (AX []) 1) (k:=2000000) m h (by omega);exact ⟨1,2000000,v,σ,e1,e2⟩
def L_88:LT:=(24,S_24) :: L_87
theorem M_88:MO L_88:=Ap K_24 M_87
theorem RT: ∃ F:B×List Int->B,∀ x,x.1.length<1000000->t20 (AY env pu (AV L_88) (AX []) 1) 2000000 [.str x.1,(AA AJ).enc x.2] .empty=some (.str (F x),.empty)/\(F x).length<=x.1.length+4 :=
 Eh (P:=λx:B×List Int=>x.1.length<1000000) (R:=λx r=>t20 (AY env pu (AV L_88) (AX []) 1) 2000000 [.str x.1,(AA AJ).enc x.2] .empty=some (.str r,.empty)/\r.length<=x.1.length+4) λx hx=>Yy (λn q τ h1 h2=>AU.c2 (aq L_88 33 S_33 rfl) (x:=n) (y:=q) ⟨h1,h2⟩ τ) (by omega) x.1 x.2 (by omega)
def bnF:B×List Int->B:=RT.choose
theorem Rb: ∀ x:B×List Int,x.1.length<1000000->t20 (AY env pu (AV L_88) (AX []) 1) 2000000 [.str x.1,(AA AJ).enc x.2] .empty=some (.str (bnF x),.empty)/\(bnF x).length<=x.1.length+4:=RT.choose_spec
def S_20:Ac:=Bt AC (AA AJ) AC (λs _=>s.length<1000000) (λs l=>bnF (s,l))
theorem K_20:Ag env 20 S_20:=kc2 (lm:=L_88) (lt:=[]) Ar M_88 Au gX λs l h=>by
 have e:=(Rb (s,l) h).1;exact ⟨1,2000000,.str (bnF (s,l)),.empty,e,BV (t:=AC) (x:=bnF (s,l))⟩
def L_89:LT:=(20,S_20) :: L_88
theorem M_89:MO L_89:=Ap K_20 M_88
end
end Go.Proofs.YtglndmmlghpdpaaGreatDoor
namespace SS
open Go
theorem lX {E:Env} {f:FuncId} {g:Ac} (h:Ag E f g) {fn:Func} {c:Code} (hf:E.P.funcs[f]? = some fn) (hb:fn.body=some c) (hn:(fn.name== "runtime.NumGoroutine")=false) {ws us:List V} (hg:g ws=some (.bool true)) {w:World} {args:List Value}
 (hz:Bd E .empty us=some ws) (hgo:GOk E (C6 w)) (hv:VRL (λ_=>none) (C6 w) us args) :
 Calls E.P f args.toArray w λ| .returned v,w'=>v=.bool true/\w'.os=w.os/\w'.output=w.output/\∀ i,i<w.heap.size->w'.heap[i]? = w.heap[i]? | _,_=>False:=by
 have hn:fn.name≠ "runtime.NumGoroutine" := by simpa using hn
 rcases h hg hz (by rw [show (V.bool true).scal=true from rfl,Bool.or_true]) (tX E.P w .empty) hgo hv with ⟨v',w',hrun,_⟩ | ⟨_,hcall⟩
 ·simp [callFunc,hf,hn,hb] at hrun
 ·refine hcall.mono λe w' hh=>?_
  cases e with
  | panicked _=>exact hh.elim
  | outgrown=>exact hh.elim
  | returned v =>
   obtain ⟨ρ',M',s,hv⟩:=hh;cases hv;exact ⟨rfl,s.os,s.output,λi hi=>s.frame i hi λ_ _ h=>by cases h⟩
theorem bS {E:Env} {σ:St} {v u:V} (h:frz E σ 64 v=some u) (hd:v.dep<=64):(bif Nat.beq v.kind 0 then some v else frz E σ D4 v)=some u:=by
 cases hb:Nat.beq v.kind 0 with
 | false=>exact h
 | true =>
  have:=TS (E:=E) (σ:=σ) 64 v (Nat.eq_of_beq_eq_true hb) hd;rw [this] at h;exact h
end SS
namespace Go.Proofs.YtglndmmlghpdpaaGreatDoor
open Go SS
set_option maxRecDepth 100000
noncomputable section
theorem UU (x:Raw):(mkF x).right=true\/mkF x=⟨[],[],[]⟩:=(P0 (txF x) trivial).2.2.2
theorem Yo:KA (AY env pu (AV L_89) (AX []) 1) mkF (λm l n=>onF (m,l,n)) Ep (λs l=>bnF (s,l)) where
 known τ:=AU.at0 (c:=BB) (F:=some true) (show AU env _ 6 (sp0 BB (some true)) from aq L_89 _ S_6 rfl) rfl τ
 model x τ:=AU.c1 (aq L_89 7 S_7 rfl) (x:=x) trivial τ
 small x:=(P0 (txF x) trivial).2.1
 locs x p hp:=by
  rcases UU x with h | h
  ·exact ((Gg h).2.1 p hp).2.1
  ·rw [h] at hp;simp at hp
 vars x:=by
  rcases UU x with h | h
  ·have:=(Gg h).2.2.1;omega
  ·rw [h];show 0<900000;omega
 one m l n τ h1 h2 h3:=AU.c3 (aq L_89 15 S_15 rfl) (x:=m) (y:=l) (z:=n) ⟨h1,h2,h3⟩ τ
 onS m l n h1 h2 h3:=(Ud (m,l,n) ⟨h1,h2,h3⟩).2
 right m s τ h1 h2:=AU.c2 (aq L_89 12 S_12 rfl) (x:=m) (y:=s) ⟨h1,h2⟩ τ;right7 m s τ h1 h2:=AU.c2 (aq L_89 16 S_16 rfl) (x:=m) (y:=s) ⟨h1,h2⟩ τ
 print m s τ h1 h2:=AU.c2 (aq L_89 11 S_11 rfl) (x:=m) (y:=s) ⟨h1,h2⟩ τ
 print7 m s τ h1 h2:=AU.c2 (aq L_89 17 S_17 rfl) (x:=m) (y:=s) ⟨h1,h2⟩ τ
 same a b τ h1 h2:=AU.c2 (aq L_89 18 S_18 rfl) (x:=a) (y:=b) ⟨h1,h2⟩ τ
 same7 a b τ h1 h2:=AU.c2 (aq L_89 19 S_19 rfl) (x:=a) (y:=b) ⟨h1,h2⟩ τ
 place m s q τ h1 h2:=AU.c3 (aq L_89 13 S_13 rfl) (x:=m) (y:=s) (z:=q) ⟨h1,h2⟩ τ
 bent s l τ h:=AU.c2 (aq L_89 20 S_20 rfl) (x:=s) (y:=l) h τ
 bentL s l h:=(Rb (s,l) h).2
 rightM m τ h:=AU.c1 (aq L_89 8 S_8 rfl) (x:=m) h τ
 parse m t τ h1 h2:=AU.c2 (aq L_89 21 S_21 rfl) (x:=m) (y:=t) ⟨h1,h2⟩ τ
 parse7 m t τ h1 h2:=AU.c2 (aq L_89 22 S_22 rfl) (x:=m) (y:=t) ⟨h1,h2⟩ τ
 num:=Ua
 init m τ h:=AU.c1 (aq L_89 23 S_23 rfl) (x:=m) h τ
 init7 m τ h:=AU.c1 (aq L_89 24 S_24 rfl) (x:=m) h τ
open Classical in
def L7:Ac:=λws=>if ∃ (x:Raw) (l o:List Int) (how:Int) (bent:List Int) (raw:B) (any:Bool),raw.length<1200000/\ws=[EP.enc x,(AA AJ).enc l,(AA AJ).enc o,.int .i64 how,(AA AJ).enc bent,.str raw,.bool any] then some (.bool true) else none
theorem lF:Ag env 4 L7:=by
 refine Jd (mem:=AV L_89) (txt:=AX []) Ar M_89 Au iP λws u hg=>?_
 unfold L7 at hg;split at hg
 ·rename_i hx;obtain ⟨x,l,o,how,bent,raw,any,hr,rfl⟩:=hx;cases hg;obtain ⟨σ,e⟩:=vI Yo (k:=2000000) (by omega) x l o how bent raw hr any;exact ⟨1,2000000,_,σ,e,BV (t:=BB) (x:=true)⟩
 ·cases hg
end
end Go.Proofs.YtglndmmlghpdpaaGreatDoor
namespace SS
open Go Go.ChangeShapes
theorem q8 {H:Type} {enc:TypeId×Value->H} {a:Assume} {C:Checked} {os:Os} {f:FuncId} {fn:Func} {s:OpenSpec} {q:(H:Type)->List (DataW H)->Bool} (hk:s.cond=some q) {F:Stop.Interp} {conds:List PathCond} {apart fresh handsOn again:Bool} {X:World->Array Value->Prop}
 (hX: ∀ (w w':World) (args:Array Value),w.heap=w'.heap->X w args->X w' args)
 (own:ownKnob C.prog.godebug=none) (started:os.Started) (noInit:C.prog.inits.idxOf? f=none) (hfn:C.prog.funcs[f]? = some fn)
 (witness: ∃ (w:World) (tape:Tape) (i:Input),w.os=os/\(w.forCall tape i).Shaped C.prog/\i.vars=[]/\Input.okWide C.prog (w.forCall tape i) .any w.heap.size f i /\
   ((s.pre enc C.prog fn conds apart (w.forCall tape i).memory i.args/\X (w.forCall tape i).memory i.args)/\sizedMet enc C.prog fn s apart (w.forCall tape i).memory i.args)/\a.holds C.prog (lone (Frame.enter C.prog f i.args .normal) [] (w.forCall tape i)))
 (contract: ∀ (W:World) (base:Nat) (args:Array Value) (ds gs:List (DataW H)) (before:List MemPlace),
   (∀ (j:Nat) t v,fn.params[j]? = some t->args[j]? = some v->Value.okWide C.prog W .any base t v) ->
   DataW.Whole enc C.prog fn.params.toList s.vars apart W args.toList ds gs before->q H (ds++gs)=true->X W args->W.ShapedOpen C.prog ->
   Calls C.prog f args W λe W'=>∃ v,e=.returned v/\(s.at F).post enc C.prog fn apart fresh handsOn again W args v W') :
 ReturnsInHanded a C os f .any (λw args=>(s.pre enc C.prog fn conds apart w args/\X w args)/\sizedMet enc C.prog fn s apart w args) ((s.at F).post enc C.prog fn apart fresh handsOn again):=by
 refine returnsInHanded_of_calls own started noInit witness ?_;intro w tape i _ hsh _ hok hpre _;obtain ⟨_,_,_,fn',hfn',_,_,_,_,hval⟩:=hok;obtain rfl:fn'=fn:=Option.some.inj (hfn'.symm.trans hfn);obtain ⟨⟨hp,hx⟩,_⟩:=hpre;obtain ⟨ds,gs,before,hw,_,hq⟩:=(OpenSpec.pre_some hk conds apart _ _).1 hp;have hw':=DataW.Whole.of_heap (w':=w.forCall tape i) (by rfl) hw;refine (contract (w.forCall tape i) w.heap.size i.args ds gs before hval hw' hq (hX _ _ _ (by rfl) hx) hsh).mono λe W' ⟨v,he,hp⟩=>?_
 subst he;exact ChangeSpec.post_blind hp
theorem xF {H:Type} {enc:TypeId×Value->H} {C:Checked} {os:Os} {f:FuncId} {fn:Func} {s:OpenSpec} {q:(H:Type)->List (DataW H)->Bool} (hk:s.cond=some q) {conds:List PathCond} {apart:Bool} {X:World->Array Value->Prop} (modest:Bool) (w0:World) (args:Array Value) (fuel:Nat) (hos:w0.os=os)
 (hsh:(w0.forCall (λ_ _=>0) ⟨#[],args,[]⟩).Shaped C.prog)
 (hok:Input.okWideB C.prog (w0.forCall (λ_ _=>0) ⟨#[],args,[]⟩) f ⟨#[],args,[]⟩=true)
 {x:List (DataW H)×List (DataW H)×List MemPlace} (hx:DataW.whole enc C.prog (w0.forCall (λ_ _=>0) ⟨#[],args,[]⟩).memory fn.params.toList s.vars apart args.toList fuel=some x)
 (hconds:conds.all (PathCond.test C.prog ⟨fn.params.toList,x.1,s.bare.plain.varTypes C.prog,x.2.1⟩)=true) (hq:q H (x.1++x.2.1)=true)
 (hsz:s.bare.sizedB enc C.prog fn apart (w0.forCall (λ_ _=>0) ⟨#[],args,[]⟩).memory args fuel=true)
 (hX:X (w0.forCall (λ_ _=>0) ⟨#[],args,[]⟩).memory args) :
 ∃ (w:World) (tape:Tape) (i:Input),w.os=os/\(w.forCall tape i).Shaped C.prog/\i.vars=[]/\Input.okWide C.prog (w.forCall tape i) .any w.heap.size f i /\
  ((s.pre enc C.prog fn conds apart (w.forCall tape i).memory i.args/\X (w.forCall tape i).memory i.args)/\sizedMet enc C.prog fn s apart (w.forCall tape i).memory i.args)/\({ modest:=modest }: Assume).holds C.prog (lone (Frame.enter C.prog f i.args .normal) [] (w.forCall tape i)) :=
 ⟨w0,λ_ _=>0,⟨#[],args,[]⟩,hos,hsh,(Input.okWide_of_okWideB (base:=0) hok).1,(Input.okWide_of_okWideB hok).2,⟨⟨(OpenSpec.pre_some hk conds apart _ _).2 ⟨x.1,x.2.1,x.2.2,DataW.Whole_of_whole hx,hconds,hq⟩,hX⟩,sizedMet_of_sizedB hsz⟩,by
  simp only [Assume.holds];exact ⟨by simp,by simp,λ_=>Modest.zero,by simp,by simp⟩⟩
theorem vZ {H:Type} {enc:TypeId×Value->H} {P:Program} {w:World} {base:Nat} {spare:Nat->Bool} {held:Bool} {t1 t2 t3 t4 t5 t6 t7:TypeId} {args:Array Value} {ds:List (DataW H)} {ps:List MemPlace} (h:DataW.TrodAll enc P w base spare held [t1,t2,t3,t4,t5,t6,t7] args.toList ds ps) :
 ∃ v1 v2 v3 v4 v5 v6 v7 d1 d2 d3 d4 d5 d6 d7 p1 p2 p3 p4 p5 p6 p7,args=#[v1,v2,v3,v4,v5,v6,v7]/\ds=[d1,d2,d3,d4,d5,d6,d7]/\ps=p1++(p2++(p3++(p4++(p5++(p6++p7)))))/\DataW.Trod enc P w base spare held t1 v1 d1 p1/\DataW.Trod enc P w base spare held t2 v2 d2 p2/\DataW.Trod enc P w base spare held t3 v3 d3 p3/\DataW.Trod enc P w base spare held t4 v4 d4 p4/\DataW.Trod enc P w base spare held t5 v5 d5 p5/\DataW.Trod enc P w base spare held t6 v6 d6 p6/\DataW.Trod enc P w base spare held t7 v7 d7 p7:=by
 obtain ⟨v1,s1,d1,e1,p1,q1,ha,rfl,rfl,h1,r1⟩:=trodAll_cons h;obtain ⟨v2,s2,d2,e2,p2,q2,rfl,rfl,rfl,h2,r2⟩:=trodAll_cons r1;obtain ⟨v3,s3,d3,e3,p3,q3,rfl,rfl,rfl,h3,r3⟩:=trodAll_cons r2;obtain ⟨v4,s4,d4,e4,p4,q4,rfl,rfl,rfl,h4,r4⟩:=trodAll_cons r3;obtain ⟨v5,s5,d5,e5,p5,q5,rfl,rfl,rfl,h5,r5⟩:=trodAll_cons r4;obtain ⟨v6,s6,d6,e6,p6,q6,rfl,rfl,rfl,h6,r6⟩:=trodAll_cons r5;obtain ⟨v7,s7,d7,e7,p7,q7,rfl,rfl,rfl,h7,r7⟩:=trodAll_cons r6;obtain ⟨rfl,rfl,rfl⟩:=trodAll_nil r7;exact ⟨v1,v2,v3,v4,v5,v6,v7,d1,d2,d3,d4,d5,d6,d7,p1,p2,p3,p4,p5,p6,p7,by cases args;simp_all,rfl,by simp,h1,h2,h3,h4,h5,h6,h7⟩
end SS
namespace Go.Proofs.YtglndmmlghpdpaaGreatDoor
open Go Go.ChangeShapes Go.WideShapes Go.ChangeAt Go.RowKit
set_option maxRecDepth 100000
theorem own:ownKnob Tryz.prog.godebug=none:=by kernel_rfl
noncomputable def p9:List Int:=[1,10,100,1000,10000,100000,1000000,10000000,100000000,1000000000,10000000000,100000000000,1000000000000,10000000000000,100000000000000,1000000000000000,10000000000000000,100000000000000000,1000000000000000000,10000000000000000000]
theorem aJ {W:World} (hL:laidMetH Tryz.prog Rows.statePlacesRow.laid W) (g:Nat) (cs:List SS.V) (hg:env.G g=some cs):(∃ kd zs,cs=zs.map (SS.V.int kd)/\SS.Nl W g kd zs)\/(cs=[.opq]/\SS.Ng W g)\/(∃ zs,cs=zs.map SS.V.str/\SS.Nk W g zs):=by
 rw [MakeChecks.laidMetH_plain _ _ _ (by kernel_rfl)] at hL;have hm:=SS.PT.ofL_mem _ (show SS.PT.getF gT g=some cs from hg);simp only [List.mem_cons,List.not_mem_nil,or_false,Prod.mk.injEq] at hm;rcases hm with ⟨rfl,rfl⟩ | ⟨rfl,rfl⟩ | ⟨rfl,rfl⟩ | ⟨rfl,rfl⟩ | ⟨rfl,rfl⟩ | ⟨rfl,rfl⟩
 ·exact .inr (.inl ⟨rfl,SS.Ue (t:=80) (by kernel_rfl) (by kernel_rfl) (SS.Tg (by kernel_rfl)) (Lib.laidMet.reads hL (.tail _ (.tail _ (.tail _ (.tail _ (.tail _ (.head _)))))))⟩)
 ·exact .inr (.inl ⟨rfl,SS.Ue (t:=80) (by kernel_rfl) (by kernel_rfl) (SS.Tg (by kernel_rfl)) (Lib.laidMet.reads hL (.tail _ (.tail _ (.tail _ (.tail _ (.head _))))))⟩)
 ·exact .inl ⟨.u64,p9,rfl,SS.vC (t:=183) (e:=131) (n:=20) (d:=Rows.laid_internal_strconv_uint64pow10) (by kernel_rfl) (by kernel_rfl) (by kernel_rfl) (by kernel_rfl) (by kernel_rfl) (by kernel_rfl) rfl (Lib.laidMet.reads hL (.tail _ (.tail _ (.head _))))⟩
 ·exact .inr (.inr ⟨[[120],[121],[122]],rfl,SS.QO (t:=91) (e:=9) (n:=3) (d:=Rows.laid_lariat_lariathand_vars) (by kernel_rfl) (by kernel_rfl) (by kernel_rfl) (by kernel_rfl) (by kernel_rfl) (by kernel_rfl) rfl (Lib.laidMet.reads hL (.tail _ (.tail _ (.tail _ (.tail _ (.tail _ (.tail _ (.head _))))))))⟩)
 ·exact .inr (.inr ⟨[[112],[113],[114]],rfl,SS.QO (t:=91) (e:=9) (n:=3) (d:=Rows.laid_lariat_lariathand_procs) (by kernel_rfl) (by kernel_rfl) (by kernel_rfl) (by kernel_rfl) (by kernel_rfl) (by kernel_rfl) rfl (Lib.laidMet.reads hL (.tail _ (.tail _ (.tail _ (.tail _ (.tail _ (.tail _ (.tail _ (.head _)))))))))⟩)
 ·exact .inr (.inr ⟨[[97],[98],[99],[100]],rfl,SS.QO (t:=118) (e:=9) (n:=4) (d:=Rows.laid_lariat_lariathand_locs) (by kernel_rfl) (by kernel_rfl) (by kernel_rfl) (by kernel_rfl) (by kernel_rfl) (by kernel_rfl) rfl (Lib.laidMet.reads hL (.tail _ (.tail _ (.tail _ (.tail _ (.tail _ (.tail _ (.tail _ (.tail _ (.head _))))))))))⟩)
theorem PO {n:Nat} {c:List SS.V} (h:SS.DW Tryz.prog (n+1) 3 c): ∃ z,c=[.int .i64 z]:=by
 unfold SS.DW at h;rw [Tryz.underlying3] at h;obtain ⟨z,h,_⟩:=h;exact ⟨z,h⟩
theorem eW {H:Type} {enc:TypeId×Value->H} {w:World} {sp:Nat->Bool} {held:Bool} {r:Reach} {base base':Nat} {v:Value} {d:DataW H} {p:List MemPlace} (h:DataW.Trod enc Tryz.prog w base sp held 3 v d p) (ho:Value.okWide Tryz.prog w r base' 3 v) :
 ∃ n:Int,v=.int .i64 n:=by
 obtain ⟨n,rfl⟩:=okWide_int Tryz.underlying3 ho;exact ⟨n,rfl⟩
theorem Tn {n:Nat} {c:List SS.V} (h:SS.DW Tryz.prog (n+2) 33 c): ∃ (v:SS.V) (l:List Int),c=[v]/\v.dep<=2/\SS.Db Tryz.prog 33 c=v/\∀ k,SS.frz env .empty (k+2) v=some ((SS.AA SS.AJ).enc l):=by
 unfold SS.DW at h;rw [Tryz.underlying33] at h;have hpk: ∀ v:SS.V,SS.Db Tryz.prog 33 [v]=v:=λv=>by
  unfold SS.Db;rw [Tryz.underlying33];rfl
 rcases h with rfl | ⟨cells,rfl,_,h3⟩
 ·exact ⟨.nilS,[],rfl,by decide,hpk _,λk=>rfl⟩
 ·have key: ∀ cells:List (List SS.V),(∀ c∈cells,SS.DW Tryz.prog (n+1) 3 c)->∃ l:List Int,cells.map (SS.Db Tryz.prog 3)=l.map (SS.V.int .i64):=by
   intro cells
   induction cells with
   | nil=>intro _;exact ⟨[],rfl⟩
   | cons c r ih =>
    intro h;obtain ⟨l,e⟩:=ih λx hx=>h x (by simp [hx])
    obtain ⟨z,rfl⟩:=PO (h c (by simp));exact ⟨z :: l,by rw [List.map_cons,e,List.map_cons];congr 1⟩
  obtain ⟨l,e⟩:=key cells h3;rw [e];refine ⟨_,l,rfl,?_,hpk _,λk=>?_⟩
  ·have e2:(SS.V.lst (l.map (SS.V.int .i64)) false).dep=1+SS.V.dep.deps (l.map (SS.V.int .i64)):=rfl;have:SS.V.dep.deps (l.map (SS.V.int .i64))<=1:=SS.KM.2 λv hv=>by
    obtain ⟨a,_,rfl⟩:=List.mem_map.1 hv;exact Nat.le_refl _
   omega
  ·match l with
   | []=>rfl
   | a :: r=>exact SS.O8 (t:=SS.AA SS.AJ) (d:=2) SS.VY.list (by omega) (a :: r)
theorem qN {H:Type} {enc:TypeId×Value->H} {w:World} {sp:Nat->Bool} {held:Bool} {r:Reach} {base base':Nat} {v:Value} {d:DataW H} {p:List MemPlace} (h:DataW.Trod enc Tryz.prog w base sp held 24 v d p) (ho:Value.okWide Tryz.prog w r base' 24 v) :
 ∃ (u:SS.V) (x:Raw),SS.VR (λ_=>none) (SS.C6 w) u v/\u.dep<=64/\SS.frz env .empty 64 u=some (EP.enc x):=by
 obtain ⟨cs,rfl,_⟩:=okWide_struct Tryz.underlying24 ho;obtain ⟨fuel,h⟩:=h;obtain ⟨vs,h1,h2⟩:=SS.WE 5 fuel 24 _ _ (by kernel_rfl) h;have h2:SS.VRL _ _ vs cs.toList:=h2;unfold SS.DW at h1;rw [Tryz.underlying24] at h1;obtain ⟨parts,rfl,hlen,hp⟩:=h1
 match parts,hlen with
 | [a,b,c],_ =>
  obtain ⟨z1,rfl⟩:=PO (hp 0 _ a rfl rfl);obtain ⟨z2,rfl⟩:=PO (hp 1 _ b rfl rfl);have h3:SS.DW Tryz.prog 4 22 c:=hp 2 _ c rfl rfl;unfold SS.DW at h3;rw [Tryz.underlying22] at h3;have fin: ∀ (t:SS.V) (l:List (List Int)),c=[t]->t.dep<=10->SS.frz env .empty 63 t=some ((SS.AA (SS.AA SS.AJ)).enc l)->∃ (u:SS.V) (x:Raw),SS.VR (λ_=>none) (SS.C6 w) u (.agg cs)/\u.dep<=64/\SS.frz env .empty 64 u=some (EP.enc x):=by
   intro t l hc hd hf;subst hc;refine ⟨.agg [.int .i64 z1,.int .i64 z2,t],⟨z1,z2,l⟩,?_,?_,?_⟩
   ·have:cs=cs.toList.toArray:=by simp
    rw [this];exact .agg _ _ h2
   ·have:=SS.JP [.int .i64 z1,.int .i64 z2,t] 10 (by
     intro v hv;simp at hv;rcases hv with rfl | rfl | rfl
     ·exact Nat.le_add_left 1 9
     ·exact Nat.le_add_left 1 9
     ·exact hd)
    omega
   ·show (match [SS.V.int .i64 z1,.int .i64 z2,t].mapM (SS.frz env .empty 63) with | some ys=>some (SS.V.agg ys) | none=>none)=_;rw [List.mapM_cons,List.mapM_cons,List.mapM_cons,List.mapM_nil,hf];rfl
  rcases h3 with rfl | ⟨cells,rfl,_,h4⟩
  ·exact fin .nilS [] rfl (by decide) rfl
  ·have key: ∀ cells:List (List SS.V),(∀ c∈cells,SS.DW Tryz.prog 3 33 c)->∃ l:List (List Int),(cells.map (SS.Db Tryz.prog 33)).mapM (SS.frz env .empty 62)=some (l.map (SS.AA SS.AJ).enc)/\(∀ v∈cells.map (SS.Db Tryz.prog 33),v.dep<=2)/\cells.length=l.length:=by
    intro cells
    induction cells with
    | nil=>intro _;exact ⟨[],rfl,by simp,rfl⟩
    | cons c r ih =>
     intro h;obtain ⟨l,e1,e2,e3⟩:=ih λx hx=>h x (by simp [hx])
     obtain ⟨v,li,rfl,g1,g2,g3⟩:=Tn (n:=1) (h c (by simp));refine ⟨li :: l,?_,?_,by simp [e3]⟩
     ·rw [List.map_cons,List.mapM_cons,g2,g3 60,e1];rfl
     ·intro x hx;rw [List.map_cons,g2] at hx;rcases List.mem_cons.1 hx with rfl | hx
      ·exact g1
      ·exact e2 x hx
   obtain ⟨l,e1,e2,e3⟩:=key cells h4;refine fin _ l rfl ?_ ?_
   ·have e4:(SS.V.lst (cells.map (SS.Db Tryz.prog 33)) false).dep=1+SS.V.dep.deps (cells.map (SS.Db Tryz.prog 33)):=rfl;have:=SS.KM.2 e2;omega
   ·match cells,l,e1,e3 with
    | [],[],_,_=>rfl
    | c :: r,li :: l,e1,_ =>
     show (match ((c :: r).map (SS.Db Tryz.prog 33)).mapM (SS.frz env .empty 62) with | some ys=>some (SS.V.lst ys false) | none=>none)=_;rw [e1];rfl
theorem PP {H:Type} {enc:TypeId×Value->H} {w:World} {sp:Nat->Bool} {held:Bool} {r:Reach} {base base':Nat} {v:Value} {d:DataW H} {p:List MemPlace} (h:DataW.Trod enc Tryz.prog w base sp held 33 v d p) (ho:Value.okWide Tryz.prog w r base' 33 v) :
 ∃ (u:SS.V) (l:List Int),SS.VR (λ_=>none) (SS.C6 w) u v/\u.dep<=64/\SS.frz env .empty 64 u=some ((SS.AA SS.AJ).enc l):=by
 obtain ⟨a,len,cap,rfl⟩:=okWide_slice Tryz.underlying33 ho;obtain ⟨fuel,h⟩:=h;obtain ⟨vs,h1,h2⟩:=SS.WE 5 fuel 33 _ _ (by kernel_rfl) h;obtain ⟨u,l,rfl,g1,_,g3⟩:=Tn (n:=3) h1;have h2:SS.VRL _ _ [u] [Value.slice a len cap]:=h2;cases h2 with
 | cons _ _ _ _ h3 h4=>exact ⟨u,l,h3,by omega,g3 62⟩
theorem Ic {v u:SS.V} {vs us:List SS.V} (h:SS.frz env .empty 64 v=some u) (hd:v.dep<=64) (hr:SS.Bd env .empty vs=some us):SS.Bd env .empty (v :: vs)=some (u :: us):=by
 have e:SS.Bd env .empty (v :: vs)=(match (bif Nat.beq v.kind 0 then some v else SS.frz env .empty SS.D4 v),SS.Bd env .empty vs with | some x,some xs=>some (x :: xs) | _,_=>none):=rfl;rw [e,SS.bS h hd,hr]
end Go.Proofs.YtglndmmlghpdpaaGreatDoor
namespace Go.Proofs.YtglndmmlghpdpaaGreatDoor
open Go Go.ChangeShapes Go.WideShapes Go.ChangeAt Go.RowKit
theorem tK {H:Type} {d1 d2 d3 d4 d5 d7:DataW H} {s:List UInt8} (h:Rows.uptoSmall H ([d1,d2,d3,d4,d5,.lit (.string s),d7]++[])=true):s.length<1200000:=by
 have h:Rows.uptoBulkAll [d1,d2,d3,d4,d5,.lit (.string s),d7]<=1048576:=of_decide_eq_true h;simp only [Rows.uptoBulkAll,Rows.uptoBulk] at h;omega
set_option maxRecDepth 100000 in
theorem vJ (os:Os) (started:os.Started) (H:Type) (enc:TypeId×Value->H) (F:Stop.Interp) :
 ReturnsInHanded {} Tryz.checked os 4 .any (λw args=>((Rows.OpenSpec.upto Rows.stateTellsSpec).pre enc Tryz.prog Tryz.f4 Rows.stateTellsUptoRow.domain false w args/\laidMetH Tryz.prog Rows.stateTellsUptoRow.laid w)/\sizedMet enc Tryz.prog Tryz.f4 (Rows.OpenSpec.upto Rows.stateTellsSpec) false w args)
  (((Rows.OpenSpec.upto Rows.stateTellsSpec).at F).post enc Tryz.prog Tryz.f4 false true false false):=by
 refine SS.q8 (C:=Tryz.checked) (s:=Rows.OpenSpec.upto Rows.stateTellsSpec) (q:=Rows.uptoSmall) rfl (X:=λw _=>laidMetH Tryz.prog Rows.stateTellsUptoRow.laid w) (λ_ _ _ hh h=>h.of_heap hh) own started (by kernel_rfl) Tryz.func4
  (SS.xF (enc:=enc) (C:=Tryz.checked) (os:=os) (s:=Rows.OpenSpec.upto Rows.stateTellsSpec) (q:=Rows.uptoSmall) rfl (X:=λw _=>laidMetH Tryz.prog Rows.stateTellsUptoRow.laid w) false (World.laidAll Tryz.prog os Rows.stateTellsUptoRow.laid) #[.agg #[.int .i64 0,.int .i64 0,.slice none 0 0],.slice none 0 0,.slice none 0 0,.int .i64 0,.slice none 0 0,.string ⟨#[]⟩,.bool false] 8 (World.laidAll_os _ _ _)
    (World.shaped_of_ZipB (by kernel_rfl) (by kernel_rfl)) (by kernel_rfl) (x:=([.agg [.lit (.int .i64 0),.lit (.int .i64 0),.nil],.nil,.nil,.lit (.int .i64 0),.nil,.lit (.string []),.lit (.bool false)],[],[])) (by kernel_rfl) (by kernel_rfl) (by kernel_rfl) (by kernel_rfl)
    (by rw [MakeChecks.laidMetH_plain _ _ _ (by kernel_rfl)];exact laidMet_laidAll _ (by kernel_rfl) (by kernel_rfl))) ?_
 intro W base args ds gs before hval hW hq hL hsh;have hW':=hW;obtain ⟨p,q,hA0,hV,rfl,_,_⟩:=hW;have hA:DataW.TrodAll enc Tryz.prog W 0 (λ_=>true) true Tryz.f4.params.toList args.toList ds p:=hA0;obtain ⟨rfl,rfl⟩:=trodVars_none hV;simp only [List.append_nil] at hW';have hlt:=hW'.lt;have hback: ∀ W':World,(∀ i,i<W.heap.size->W'.heap[i]? = W.heap[i]?)->∀ sp:Nat->Bool,(∀ x∈p,sp x.block=true)->DataW.TrodAll enc Tryz.prog W' 0 sp true Tryz.f4.params.toList args.toList ds p :=
  λW' hk sp hs=>SS.V8 (n:=6) hk (by kernel_rfl) hA hlt hs
 have hA2:=hA;rw [Tryz.params4] at hA2;obtain ⟨v1,v2,v3,v4,v5,v6,v7,d1,d2,d3,d4,d5,d6,d7,p1,p2,p3,p4,p5,p6,p7,rfl,rfl,rfl,t1,t2,t3,t4,t5,t6,t7⟩:=SS.vZ hA2;obtain ⟨u,x,hu,hd,hf⟩:=qN t1 (hval 0 24 _ rfl rfl);obtain ⟨u2,l,hu2,hd2,hf2⟩:=PP t2 (hval 1 33 _ rfl rfl);obtain ⟨u3,o,hu3,hd3,hf3⟩:=PP t3 (hval 2 33 _ rfl rfl);obtain ⟨how,rfl⟩:=eW t4 (hval 3 3 _ rfl rfl);obtain ⟨u5,bent,hu5,hd5,hf5⟩:=PP t5 (hval 4 33 _ rfl rfl);obtain ⟨raw,rfl,rfl,rfl,_⟩:=Go.ChangeMaps.open_string Tryz.underlying9 (hval 5 9 _ rfl rfl) t6;obtain ⟨any,rfl,rfl,rfl⟩:=open_bool Tryz.underlying4 (hval 6 4 _ rfl rfl) t7;have hraw:=tK hq;have hg:L7 [EP.enc x,(SS.AA SS.AJ).enc l,(SS.AA SS.AJ).enc o,.int .i64 how,(SS.AA SS.AJ).enc bent,.str raw.data.toList,.bool any]=some (.bool true):=by
  unfold L7;exact if_pos ⟨x,l,o,how,bent,raw.data.toList,any,hraw,rfl⟩
 have hb:(⟨raw.data.toList.toArray⟩:ByteArray)=raw:=by cases raw;simp
 have hs:SS.VR (λ_=>none) (SS.C6 W) (.str raw.data.toList) (.string raw):=by
  have:=SS.VR.str (ρ:=λ_=>none) (M:=SS.C6 W) raw.data.toList;rw [hb] at this;exact this
 refine (SS.lX lF (c:=SS.Gu Tryz.f4) Tryz.func4 (by kernel_rfl) (by kernel_rfl) hg (us:=[u,u2,u3,.int .i64 how,u5,.str raw.data.toList,.bool any]) (args:=[v1,v2,v3,.int .i64 how,v5,.string raw,.bool any]) (Ic hf hd (Ic hf2 hd2 (Ic hf3 hd3 (Ic rfl (Nat.le_add_left 1 63) (Ic hf5 hd5 (Ic rfl (Nat.le_add_left 1 63) (Ic rfl (Nat.le_add_left 1 63) rfl))))))) (SS.cK (aJ hL) (idx hsh)) (.cons _ _ _ _ hu (.cons _ _ _ _ hu2 (.cons _ _ _ _ hu3 (.cons _ _ _ _ (.int _ _) (.cons _ _ _ _ hu5 (.cons _ _ _ _ hs (.cons _ _ _ _ (.bool _) .nil)))))))).mono λe W' he=>?_
 cases e with
 | panicked _=>exact he.elim
 | outgrown=>exact he.elim
 | returned v =>
  obtain ⟨rfl,hos,hout,hk⟩:=he;exact ⟨_,rfl,p8 (pv:=[]) hW' (λ_ _ _=>trodAll_mk1 (shut_bool Tryz.underlying4 true)) (λsp hs=>hback W' hk sp hs) (λ_ _=>rfl) (by simp) hos hout hk (ok_one (by kernel_rfl) rfl (okWide_bool_mk Tryz.underlying4 _))⟩
end Go.Proofs.YtglndmmlghpdpaaGreatDoor
