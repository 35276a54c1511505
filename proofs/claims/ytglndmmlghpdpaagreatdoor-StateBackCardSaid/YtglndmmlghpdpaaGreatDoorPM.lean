/-
  part 13 of the proof; no condition.
-/
import Derived.Test.YtglndmmlghpdpaaGreatDoorPL
import Derived.Shelf.Strings.OnBuilder
import Derived.Shelf.Strconv.Itoa3
import Derived.Lib.AppendIntMem
import Derived.ProofKit
import Derived.Shelf.Strconv.AtoiInnerAll
import Derived.Lib.AtoiErrMem
import Derived.Test.YtglndmmlghpdpaaGreatDoorTie
import Derived.Test.YtglndmmlghpdpaaGreatDoorCards
import Derived.OpenShut
import Derived.LaidMore
import Derived.Lay
import Derived.SevenTiedAt
import Derived.Stop.Joined
namespace Go.Proofs.YtglndmmlghpdpaaGreatDoor
open Go SS
set_option maxRecDepth 100000
noncomputable section
theorem aq (lm:List (FuncId×Ac)) (f:FuncId) (g:Ac) (h:AV lm f=some g):AP env (AY env pu (AV lm) (AX []) 1) f g:=Bn h (Nat.le_refl 1)
abbrev LT:=List (FuncId×Ac)
abbrev MO (l:LT):=D8 env (AV l)
def L_0:List (FuncId×Ac):=[]
theorem M_0:D8 env (AV L_0):=MK
def S_54:Ac:=BS tU8 BA (fun _=>True) SS.Bq
theorem K_54:Af env 54 S_54:=kc1 (lm:=L_0) (lt:=[]) Ar M_0 Aw jH fun x _=>Dl (k:=1) (k':=1) ⟨_,Z6 _ _ _ x⟩
def L_1:LT:=(54,S_54) :: L_0
theorem M_1:MO L_1:=Aq K_54 M_0
def S_53:Ac:=BS tU8 BA (fun _=>True) SS.CW
theorem K_53:Af env 53 S_53:=kc1 (lm:=L_1) (lt:=[]) Ar M_1 Aw jG fun x _=>Dl (k:=1) (k':=1) ⟨_,mX _ _ _ x⟩
def L_2:LT:=(53,S_53) :: L_1
theorem M_2:MO L_2:=Aq K_53 M_1
def S_103:Ac:=BS AJ AJ (fun _=>True) SS.arity
theorem K_103:Af env 103 S_103:=kc1 (lm:=L_2) (lt:=[]) Ar M_2 Aw fT fun x _=>Dl (k:=1) (k':=1) ⟨_,Yi _ _ _ x⟩
def L_3:LT:=(103,S_103) :: L_2
theorem M_3:MO L_3:=Aq K_103 M_2
def S_124:Ac:=BS AJ AJ (fun _=>True) strength
theorem K_124:Af env 124 S_124:=kc1 (lm:=L_3) (lt:=[]) Ar M_3 Aw gI fun x _=>Dl (k:=1) (k':=1) ⟨_,uH _ _ x _⟩
def L_4:LT:=(124,S_124) :: L_3
theorem M_4:MO L_4:=Aq K_124 M_3
def S_30:Ac:=BS AJ BA (fun _=>True) (fun c=>decide (-999≤c)&&decide (c≤999))
theorem K_30:Af env 30 S_30:=kc1 (lm:=L_4) (lt:=[]) Ar M_4 Aw iM fun x _=>Dl (k:=1) (k':=1) ⟨_,wE _ _ _ x⟩
def L_5:LT:=(30,S_30) :: L_4
theorem M_5:MO L_5:=Aq K_30 M_4
def S_57:Ac:=BS AJ BA (fun _=>True) (fun c=>decide (1≤c)&&decide (c≤999))
theorem K_57:Af env 57 S_57:=kc1 (lm:=L_5) (lt:=[]) Ar M_5 Aw jK fun x _=>Dl (k:=1) (k':=1) ⟨_,dX _ _ _ x⟩
def L_6:LT:=(57,S_57) :: L_5
theorem M_6:MO L_6:=Aq K_57 M_5
def S_59:Ac:=B6 AU AC AJ (fun m _=>Ao m) (fun m s=>m.variable s)
theorem K_59:Af env 59 S_59:=kc2 (lm:=L_6) (lt:=[]) Ar M_6 Aw jM fun m s h=>by
 have hl:=h.vars
 obtain ⟨σ,e⟩:=v7 (call:=AY env pu (AV L_6) (AX []) 1) (k:=2000000) m s h.vars (by omega)
 exact ⟨1,2000000,_,σ,e,BZ (t:=AJ)⟩
def L_7:LT:=(59,S_59) :: L_6
theorem M_7:MO L_7:=Aq K_59 M_6
def S_55:Ac:=B6 AU AC AJ (fun m _=>Ao m) (fun m s=>m.process s)
theorem K_55:Af env 55 S_55:=kc2 (lm:=L_7) (lt:=[]) Ar M_7 Aw jI fun m s h=>by
 have hl:=h.procs
 obtain ⟨σ,e⟩:=qC (call:=AY env pu (AV L_7) (AX []) 1) (k:=2000000) m s h.procs (by omega)
 exact ⟨1,2000000,_,σ,e,BZ (t:=AJ)⟩
def L_8:LT:=(55,S_55) :: L_7
theorem M_8:MO L_8:=Aq K_55 M_7
def S_45:Ac:=Hz AU AJ AC AJ (fun m p _=>Ao m∧p<m.procs.length) AQ.place
theorem K_45:Af env 45 S_45:=kc3 (lm:=L_8) (lt:=[]) Ar M_8 Aw iX fun m p s h=>Dl (k:=1) (k':=2000000) (pM m p s h.2 fun q hq=>⟨(h.1.proc q hq).2.1,by have:=(h.1.proc q hq).2.1;omega⟩)
def L_9:LT:=(45,S_45) :: L_8
theorem M_9:MO L_9:=Aq K_45 M_8
def S_31:Ac:=BS (AA AC) BA (fun l=>l.length<1000000) twice
theorem K_31:Af env 31 S_31:=kc1 (lm:=L_9) (lt:=[]) Ar M_9 Aw iO fun l h=>Dl (k:=1) (k':=2000000) ⟨_,vE l h (by have:=h;omega) _⟩
def L_10:LT:=(31,S_31) :: L_9
theorem M_10:MO L_10:=Aq K_31 M_9
def S_29:Ac:=BS AC BA (fun s=>s.length<1000000) isWord
theorem K_29:Af env 29 S_29:=kc1 (lm:=L_10) (lt:=[]) Ar M_10 Aw iL fun s h=>Dl (k:=1) (k':=2000000) ⟨_,kV (fun c τ=>AP.c1 (aq L_10 53 S_53 rfl) (x:=c) trivial τ) (fun c τ=>AP.c1 (aq L_10 54 S_54 rfl) (x:=c) trivial τ) s h (by have:=h;omega) _⟩
def L_11:LT:=(29,S_29) :: L_10
theorem M_11:MO L_11:=Aq K_29 M_10
def S_56:Ac:=BS AC (Dm AC BA) (fun s=>s.length<1000000) (fun s=>(s.dropLast,Ee s))
theorem K_56:Af env 56 S_56:=kc1 (lm:=L_11) (lt:=[]) Ar M_11 Aw jJ fun s h=>Dl (k:=1) (k':=2000000) ⟨_,ZT (fun s τ h=>AP.c1 (aq L_11 29 S_29 rfl) (x:=s) h τ) s h _⟩
def L_12:LT:=(56,S_56) :: L_11
theorem M_12:MO L_12:=Aq K_56 M_11
def S_77:Ac:=BS (AA Ae) BA Cg Ck
theorem K_77:Af env 77 S_77:=kc1 (lm:=L_12) (lt:=[]) Ar M_12 Aw j8 fun l h=>Dl (k:=1) (k':=2000000) (q9 (fun s τ h=>AP.c1 (aq L_12 29 S_29 rfl) (x:=s) h τ) (fun n τ=>AP.c1 (aq L_12 103 S_103 rfl) (x:=n) trivial τ) l h (by have:=h.1;omega) _)
def L_13:LT:=(77,S_77) :: L_12
theorem M_13:MO L_13:=Aq K_77 M_12
def S_58:Ac:=B6 AU (AA Ae) BA (fun m l=>Ao m∧Cg l) AQ.known
theorem K_58:Af env 58 S_58:=kc2 (lm:=L_13) (lt:=[]) Ar M_13 Aw jL fun m l h=>Dl (k:=1) (k':=2000000) (lW ⟨fun s τ h=>AP.c1 (aq L_13 29 S_29 rfl) (x:=s) h τ,fun m s τ h=>AP.c2 (aq L_13 59 S_59 rfl) (x:=m) (y:=s) h τ,fun m s τ h=>AP.c2 (aq L_13 55 S_55 rfl) (x:=m) (y:=s) h τ,fun m p s τ h h2=>AP.c3 (aq L_13 45 S_45 rfl) (x:=m) (y:=p) (z:=s) ⟨h,h2⟩ τ,fun l τ h=>AP.c1 (aq L_13 77 S_77 rfl) (x:=l) h τ⟩ m l h.1 h.2 (by have:=h.2.1;omega))
def L_14:LT:=(58,S_58) :: L_13
theorem M_14:MO L_14:=Aq K_58 M_13
def S_32:Ac:=B6 AU BJ BA (fun m t=>Ao m∧Dg t) AQ.rightT
theorem K_32:Af env 32 S_32:=kc2 (lm:=L_14) (lt:=[]) Ar M_14 Aw iP fun m t h=>Dl (k:=1) (k':=2000000) (qZ ⟨fun s τ h=>AP.c1 (aq L_14 29 S_29 rfl) (x:=s) h τ,fun m s τ h=>AP.c2 (aq L_14 59 S_59 rfl) (x:=m) (y:=s) h τ,fun m s τ h=>AP.c2 (aq L_14 55 S_55 rfl) (x:=m) (y:=s) h τ,fun m p s τ h h2=>AP.c3 (aq L_14 45 S_45 rfl) (x:=m) (y:=p) (z:=s) ⟨h,h2⟩ τ,fun l τ h=>AP.c1 (aq L_14 77 S_77 rfl) (x:=l) h τ⟩ (fun s τ h=>AP.c1 (aq L_14 56 S_56 rfl) (x:=s) h τ) (fun c τ=>AP.c1 (aq L_14 57 S_57 rfl) (x:=c) trivial τ) (fun m l τ h h2=>AP.c2 (aq L_14 58 S_58 rfl) (x:=m) (y:=l) ⟨h,h2⟩ τ) m t h.1 h.2 (by have:=h.2.2.2.2.2.2.1;omega))
def L_15:LT:=(32,S_32) :: L_14
theorem M_15:MO L_15:=Aq K_32 M_14
def S_8:Ac:=BS AU BA Ao AQ.right
theorem K_8:Af env 8 S_8:=kc1 (lm:=L_15) (lt:=[]) Ar M_15 Aw j9 fun m h=>Dl (k:=1) (k':=2000000) (qY ⟨fun s τ h=>AP.c1 (aq L_15 29 S_29 rfl) (x:=s) h τ,fun c τ=>AP.c1 (aq L_15 30 S_30 rfl) (x:=c) trivial τ,fun v l τ hv h=>AP.f1 (aq L_15 31 S_31 rfl) (x:=l) h hv (.inr rfl),fun m t τ h h2=>AP.c2 (aq L_15 32 S_32 rfl) (x:=m) (y:=t) ⟨h,h2⟩ τ⟩ m h (by have:=h.vars;omega) (by have:=h.procs;omega) (fun p hp=>by have:=(h.proc p hp).2.1;omega) (by have:=h.trans;omega))
def L_16:LT:=(8,S_8) :: L_15
theorem M_16:MO L_16:=Aq K_8 M_15
def S_10:Ac:=B6 AC tU8 (AA AC) (fun s c=>s.length<1000000∧∃ b,c=by8 b) (fun s c=>cut (UInt8.ofNat c.toNat) s)
theorem K_10:Af env 10 S_10:=kc2 (lm:=L_16) (lt:=[]) Ar M_16 Aw fM fun s c h=>by
 obtain ⟨h1,b,rfl⟩:=h
 obtain ⟨v,τ,q,g1,g2⟩:=Zj (call:=AY env pu (AV L_16) (AX []) 1) (k:=2000000) s b h1 (by omega)
 rw [N9]
 exact ⟨1,2000000,v,τ,g1,QU g2⟩
def L_17:LT:=(10,S_10) :: L_16
theorem M_17:MO L_17:=Aq K_10 M_16
def S_47:Ac:=BS AC (AA AC) (fun s=>s.length<999999) BC
theorem K_47:Af env 47 S_47:=kc1 (lm:=L_17) (lt:=[]) Ar M_17 Aw iZ fun s h=>by
 obtain ⟨v,τ,q,g1,g2⟩:=wH (call:=AY env pu (AV L_17) (AX []) 1) (fun s c τ h=>by have:=AP.c2 (aq L_17 10 S_10 rfl) (x:=s) (y:=by8 c) ⟨h,c,rfl⟩ τ;rw [N9] at this;exact this) (k:=2000000) s h (by omega)
 exact ⟨1,2000000,v,τ,g1,QU g2⟩
def L_18:LT:=(47,S_47) :: L_17
theorem M_18:MO L_18:=Aq K_47 M_17
end
end Go.Proofs.YtglndmmlghpdpaaGreatDoor
namespace Go.Proofs.YtglndmmlghpdpaaGreatDoor
open Go SS
set_option maxRecDepth 100000
noncomputable section
theorem Sb {C:SS.Call} (h:AP env C 10 S_10) (s:B) (c:UInt8) (τ:St) (hs:s.length<1000000):C 10 [.str s,.int .u8 (by8 c)] τ=some ((AA AC).enc (cut c s),τ):=by
 have:=AP.c2 (a:=AC) (b:=tU8) (c:=AA AC) (show AP env C 10 (B6 AC tU8 (AA AC) (fun s c=>s.length<1000000∧∃ b,c=by8 b) (fun s c=>cut (UInt8.ofNat c.toNat) s)) from h) (x:=s) (y:=by8 c) ⟨hs,c,rfl⟩ τ
 rw [N9] at this
 exact this
def Nd:Ac:=B6 AC BA (Dm AJ BA) (fun s g=>s.length<1000000∧g=false) (fun s _=>Bz s)
theorem X0:Af env 37 Nd:=kc2 (lm:=L_18) (lt:=[]) Ar M_18 Aw UE fun s g h=>by
 obtain ⟨h1,rfl⟩:=h
 have e:=Nq (call:=AY env pu (AV L_18) (AX []) 1) (k:=2000000) (fun c τ=>AP.c1 (show AP env (AY env pu (AV L_18) (AX []) 1) 54 S_54 from Bn rfl (Nat.le_refl 1)) (x:=c) trivial τ) s h1 (by omega) .empty
 exact ⟨1,2000000,_,_,e,BZ (t:=Dm AJ BA)⟩
def KE:List (FuncId×Ac):=(37,Nd) :: L_18
theorem YB:D8 env (AV KE):=Aq X0 M_18
def S_37:Ac:=B6 AC BA (Dm AJ BA) (fun s _=>s.length<1000000) CE
theorem K_37:Af env 37 S_37:=kc2 (lm:=KE) (lt:=[]) Ar YB Aw UE fun s g h=>by
 have e:=YZ (call:=AY env pu (AV KE) (AX []) 1) (k:=2000000) (fun c τ=>AP.c1 (show AP env (AY env pu (AV KE) (AX []) 1) 54 S_54 from Bn rfl (Nat.le_refl 1)) (x:=c) trivial τ)
  (fun s τ h=>AP.c2 (show AP env (AY env pu (AV KE) (AX []) 1) 37 Nd from Bn rfl (Nat.le_refl 1)) (x:=s) (y:=false) ⟨h,rfl⟩ τ) s g h (by omega) .empty
 exact ⟨1,2000000,_,_,e,BZ (t:=Dm AJ BA)⟩
def L_19:LT:=(37,S_37) :: L_18
theorem M_19:MO L_19:=Aq K_37 M_18
def S_50:Ac:=B6 AC AJ AC (fun s n=>s.length<1000000∧0≤n∧n<10) (fun s n=>CY s n.toNat)
theorem K_50:Af env 50 S_50:=kc2 (lm:=L_19) (lt:=[]) Ar M_19 Aw jD fun s n h=>by
 obtain ⟨h1,h2,h3⟩:=h
 obtain ⟨n,rfl⟩: ∃ m:Nat,n=(m:Int):=⟨n.toNat,by omega⟩
 rw [Int.toNat_natCast]
 have e:=sI (call:=AY env pu (AV L_19) (AX []) 1) (k:=2000000) s n h1 (by omega) (by omega) (by omega) .empty
 exact ⟨1,2000000,_,_,e,BZ (t:=AC)⟩
def L_20:LT:=(50,S_50) :: L_19
theorem M_20:MO L_20:=Aq K_50 M_19
def S_48:Ac:=BS (AA AC) (Dm BF BA) (fun l=>l.length<1000000∧∀ s∈l,s.length<1000000) parseVar
theorem K_48:Af env 48 S_48:=kc1 (lm:=L_20) (lt:=[]) Ar M_20 Aw jA fun l h=>by
 obtain ⟨σ,e⟩:=o8 (call:=AY env pu (AV L_20) (AX []) 1) (k:=2000000) (fun s g τ h=>AP.c2 (aq L_20 37 S_37 rfl) (x:=s) (y:=g) h τ) l h.1 h.2
 exact ⟨1,2000000,_,σ,e,BZ (t:=Dm BF BA)⟩
def L_21:LT:=(48,S_48) :: L_20
theorem M_21:MO L_21:=Aq K_48 M_20
def Gv (N:Nat):Ac:=BS V4 AC (fun n=>0≤n∧n<(N:Int)) (fun n=>Bg n.toNat)
theorem YA: ∀ j N:Nat,N≤10 ^ j→N≤4000000→Af env 89 (Gv N):=by
 intro j
 induction j with
 | zero =>
  intro N hN _
  refine kc1 (lm:=[]) (lt:=[]) Ar MK Aw UF fun n h=>?_
  have hn:n=0:=by have:N≤1:=hN;omega
  subst hn
  have e:=pR (call:=AY env pu (AV []) (AX []) 1) (k:=2000000) 0 (by omega) (fun m τ h=>by omega) (by omega) .empty
  exact ⟨1,2000000,_,_,e,BZ (t:=AC)⟩
 | succ j ih =>
  intro N hN hN2
  have hp:10 ^ (j+1)=10 ^ j*10:=Nat.pow_succ ..
  have k1:Af env 89 (Gv (min N (10 ^ j))):=ih (min N (10 ^ j)) (Nat.min_le_right _ _) (by omega)
  have hm:D8 env (AV [(89,Gv (min N (10 ^ j)))]):=Aq k1 MK
  show Af env 89 (BS V4 AC (fun n=>0≤n∧n<(N:Int)) (fun n=>Bg n.toNat))
  refine kc1 (lm:=[(89,Gv (min N (10 ^ j)))]) (lt:=[]) Ar hm Aw UF fun n h=>?_
  obtain ⟨h1,h2⟩:=h
  obtain ⟨n,rfl⟩: ∃ m:Nat,n=(m:Int):=⟨n.toNat,by omega⟩
  rw [Int.toNat_natCast]
  have hlt:n<N:=by omega
  have hA:AP env (AY env pu (AV [(89,Gv (min N (10 ^ j)))]) (AX []) 1) 89 (Gv (min N (10 ^ j))):=Bn rfl (Nat.le_refl 1)
  have e:=pT (call:=AY env pu (AV [(89,Gv (min N (10 ^ j)))]) (AX []) 1) (k:=2000000) n (by omega) (fun h10 τ=>by
   have:=AP.c1 hA (x:=((n / 10:Nat):Int)) ⟨by omega,by omega⟩ τ
   rw [Int.toNat_natCast] at this
   exact this) .empty
  exact ⟨1,2000000,_,_,e,BZ (t:=AC)⟩
def S_89:Ac:=Gv 4000000
theorem K_89:Af env 89 S_89:=YA 7 4000000 (by decide) (by decide)
def L_22:LT:=(89,S_89) :: L_21
theorem M_22:MO L_22:=Aq K_89 M_21
def S_66:Ac:=BS AJ AC (fun n=>-1000000≤n∧n≤1000000) BX
theorem K_66:Af env 66 S_66:=kc1 (lm:=L_22) (lt:=[]) Ar M_22 Aw jR fun n h=>by
 have e:=Zx (call:=AY env pu (AV L_22) (AX []) 1) (k:=2000000) n h.1 h.2 (fun m τ h=>by
  have:=AP.c1 (aq L_22 89 S_89 rfl) (x:=(m:Int)) ⟨by omega,by omega⟩ τ
  rw [Int.toNat_natCast] at this
  exact this) .empty
 exact ⟨1,2000000,_,_,e,BZ (t:=AC)⟩
def L_23:LT:=(66,S_66) :: L_22
theorem M_23:MO L_23:=Aq K_66 M_22
def S_100:Ac:=BS (AA Be) BA GR KR
theorem K_100:Af env 100 S_100:=kc1 (lm:=L_23) (lt:=[]) Ar M_23 Aw fO fun l h=>by
 have hl:=h.1
 have e:=qX (call:=AY env pu (AV L_23) (AX []) 1) (k:=2000000) (fun s τ h=>AP.c1 (aq L_23 29 S_29 rfl) (x:=s) h τ) (fun l τ h=>AP.c1 (aq L_23 77 S_77 rfl) (x:=l) h τ) l h (by omega) .empty
 exact ⟨1,2000000,_,_,e,BZ (t:=BA)⟩
def L_24:LT:=(100,S_100) :: L_23
theorem M_24:MO L_24:=Aq K_100 M_23
theorem Vl: ∃ F:B→B,∀ s,(1≤s.length∧s.length<1000000)→(∃ σ,t122 (AY env pu (AV []) (AX []) 1) 2000000 [.str s] .empty=some (.str (F s),σ))∧(F s).length≤s.length :=
 Ey (P:=fun s:B=>1≤s.length∧s.length<1000000) (R:=fun s r=>(∃ σ,t122 (AY env pu (AV []) (AX []) 1) 2000000 [.str s] .empty=some (.str r,σ))∧r.length≤s.length) fun s h=>by
  obtain ⟨r,σ,e1,e2⟩:=sD (call:=AY env pu (AV []) (AX []) 1) (k:=2000000) s h.2 h.1 (by omega)
  exact ⟨r,⟨σ,e1⟩,e2⟩
def sgF:B→B:=Vl.choose
theorem Vf: ∀ s,(1≤s.length∧s.length<1000000)→(∃ σ,t122 (AY env pu (AV []) (AX []) 1) 2000000 [.str s] .empty=some (.str (sgF s),σ))∧(sgF s).length≤s.length:=Vl.choose_spec
def S_122:Ac:=BS AC AC (fun s=>1≤s.length∧s.length<1000000) sgF
theorem K_122:Af env 122 S_122:=kc1 (lm:=[]) (lt:=[]) Ar MK Aw gG fun s h=>by
 obtain ⟨σ,e⟩:=(Vf s h).1
 exact ⟨1,2000000,_,σ,e,BZ (t:=AC)⟩
def L_25:LT:=(122,S_122) :: L_24
theorem M_25:MO L_25:=Aq K_122 M_24
theorem Rj: ∃ F:BU×Int→Int,∀ x:BU×Int,True→(∃ σ,t147 (AY env pu (AV L_25) (AX []) 1) 2000000 [BD.enc x.1,.int .i64 x.2] .empty=some (.int .i64 (F x),σ))∧(F x=0∨(6≤F x∧F x≤16∧x.1.kind=4)) :=
 Ey (P:=fun _:BU×Int=>True) (R:=fun x n=>(∃ σ,t147 (AY env pu (AV L_25) (AX []) 1) 2000000 [BD.enc x.1,.int .i64 x.2] .empty=some (.int .i64 n,σ))∧(n=0∨(6≤n∧n≤16∧x.1.kind=4))) fun x _=>by
  obtain ⟨n,σ,e1,e2⟩:=Y2 (call:=AY env pu (AV L_25) (AX []) 1) (k:=2000000) (fun n τ=>AP.c1 (show AP env (AY env pu (AV L_25) (AX []) 1) 124 S_124 from Bn rfl (Nat.le_refl 1)) (x:=n) trivial τ) x.1 x.2 (by omega)
  exact ⟨n,⟨σ,e1⟩,e2⟩
def JH:BU×Int→Int:=Rj.choose
theorem Ri: ∀ x:BU×Int,True→(∃ σ,t147 (AY env pu (AV L_25) (AX []) 1) 2000000 [BD.enc x.1,.int .i64 x.2] .empty=some (.int .i64 (JH x),σ))∧(JH x=0∨(6≤JH x∧JH x≤16∧x.1.kind=4)):=Rj.choose_spec
def S_147:Ac:=B6 BD AJ AJ (fun _ _=>True) (fun t n=>JH (t,n))
theorem K_147:Af env 147 S_147:=kc2 (lm:=L_25) (lt:=[]) Ar M_25 Aw gY fun t n _=>by
 obtain ⟨σ,e⟩:=(Ri (t,n) trivial).1
 exact ⟨1,2000000,_,σ,e,BZ (t:=AJ)⟩
def L_26:LT:=(147,S_147) :: L_25
theorem M_26:MO L_26:=Aq K_147 M_25
end
end Go.Proofs.YtglndmmlghpdpaaGreatDoor
namespace Go.Proofs.YtglndmmlghpdpaaGreatDoor
open Go SS
set_option maxRecDepth 100000
noncomputable section
theorem Qc {τ:St} {vs us:List V} (hk:V.kind.kinds vs≠0) (h:vs.mapM (frz env τ 63)=some us):(V.tup vs).kind≠0∧frz env τ 64 (.tup vs)=some (.tup us):=by
 refine ⟨by rw [Hg];exact hk,?_⟩
 show (match vs.mapM (frz env τ 63) with | some ys=>some (V.tup ys) | none=>none)=_
 rw [h]
theorem KX {τ:St} {v u:V} (hk:v.kind≠0) (h:frz env τ 64 v=some u):Bj env τ v u:=.inr ⟨hk,h⟩
theorem UL: ∀ r:Gt,(D5 r).kind=0
 | .toks l=>by show (V.tup _).kind=0;rw [Hg,BI,BI,BI,(AA BD).zero];rfl
 | .none _ _=>rfl
theorem V5: ∀ r:Gw,(Ef r).kind=0
 | .terms l a=>by show (V.tup _).kind=0;rw [Hg,BI,BI,BI,(AA Ae).zero];rfl
 | .none _ _=>rfl
theorem Ps: ∀ r:IG,(Gm r).kind=0
 | .terms l=>by show (V.tup _).kind=0;rw [Hg,BI,BI,BI,(AA Ae).zero];rfl
 | .none _ _=>rfl
theorem Sm: ∀ r:IC,(FX r).kind=0
 | .effs l=>by show (V.tup _).kind=0;rw [Hg,BI,BI,(AA Be).zero];rfl
 | .none=>rfl
instance:Inhabited Gt:=⟨.none 0 0⟩
instance:Inhabited Gw:=⟨.none 0 0⟩
instance:Inhabited IG:=⟨.none 0 0⟩
instance:Inhabited IC:=⟨.none⟩
instance:Inhabited Bi:=⟨⟨0,[],[],[],[],[],[]⟩⟩
instance:Inhabited AQ:=⟨⟨[],[],[]⟩⟩
instance:Inhabited BL:=⟨⟨[],[]⟩⟩
theorem UM: ∃ F:B→Gt,∀ s,True→(∃ v σ,t98 (AY env pu (AV L_26) (AX []) 1) 2000000 [.str s] .empty=some (v,σ)∧Bj env σ v (D5 (F s)))∧KF (F s) :=
 Ey (P:=fun _:B=>True) (R:=fun s r=>(∃ v σ,t98 (AY env pu (AV L_26) (AX []) 1) 2000000 [.str s] .empty=some (v,σ)∧Bj env σ v (D5 r))∧KF r) fun s _=>by
  obtain ⟨v,σ,e1,e2⟩:=mI (call:=AY env pu (AV L_26) (AX []) 1) (k:=2000000) (fun c τ=>AP.c1 (show AP env (AY env pu (AV L_26) (AX []) 1) 54 S_54 from Bn rfl (Nat.le_refl 1)) (x:=c) trivial τ)
   (fun c τ=>AP.c1 (show AP env (AY env pu (AV L_26) (AX []) 1) 53 S_53 from Bn rfl (Nat.le_refl 1)) (x:=c) trivial τ) sgF
   (fun s τ h1 h2=>AP.c1 (show AP env (AY env pu (AV L_26) (AX []) 1) 122 S_122 from Bn rfl (Nat.le_refl 1)) (x:=s) ⟨h1,h2⟩ τ) (fun s h1 h2=>(Vf s ⟨h1,h2⟩).2) s (by omega)
  rcases e2 with ⟨x,toks,b,rfl,hL,hT,h1⟩ | ⟨e,a,rfl,h1,h2,h3⟩
  ·have hk:=Ik hL
   obtain ⟨q1,q2⟩:=Qc (τ:=σ) (vs:=[x,.int .i64 0,.int .i64 0]) (us:=[(AA BD).enc toks,.int .i64 0,.int .i64 0]) (by rw [BI];omega) (by rw [List.mapM_cons,List.mapM_cons,List.mapM_cons,List.mapM_nil,cO (n:=62) (by omega) hL];rfl)
   exact ⟨.toks toks,⟨_,σ,e1,KX q1 q2⟩,hT,h1⟩
  ·exact ⟨.none e a,⟨_,σ,e1,.inr ⟨(by intro h;cases h),rfl⟩⟩,h1,h2,h3⟩
def Ii:B→Gt:=UM.choose
theorem PZ: ∀ s,True→(∃ v σ,t98 (AY env pu (AV L_26) (AX []) 1) 2000000 [.str s] .empty=some (v,σ)∧Bj env σ v (D5 (Ii s)))∧KF (Ii s):=UM.choose_spec
def S_98:Ac:=BS AC tV0 (fun _=>True) (fun s=>⟨D5 (Ii s),UL _⟩)
theorem K_98:Af env 98 S_98:=kc1 (lm:=L_26) (lt:=[]) Ar M_26 Aw kN fun s _=>by
 obtain ⟨v,σ,e1,e2⟩:=(PZ s trivial).1
 exact ⟨1,2000000,v,σ,e1,e2⟩
def L_27:LT:=(98,S_98) :: L_26
theorem M_27:MO L_27:=Aq K_98 M_26
def I6:List (FuncId×CB):=[(123,t123),(146,t146),(153,t153),(154,t154)]
theorem vK:Dv env pu (AX I6):=D6 gH (D6 gX (D6 iB (D6 iC Aw)))
theorem reads:Fg (AY env pu (AV L_27) (AX I6)) (fun t n=>JH (t,n)) where
 level k vs σ:=Dw (by kernel_rfl) (by kernel_rfl) (by kernel_rfl) rfl k vs σ
 unary k vs σ:=Dw (by kernel_rfl) (by kernel_rfl) (by kernel_rfl) rfl k vs σ
 is k vs σ:=Dw (by kernel_rfl) (by kernel_rfl) (by kernel_rfl) rfl k vs σ
 fail k vs σ:=Dw (by kernel_rfl) (by kernel_rfl) (by kernel_rfl) rfl k vs σ
 binary k hk t lv τ:=AP.c2 (show AP env (AY env pu (AV L_27) (AX I6) k) 147 S_147 from Bn rfl hk) (x:=t) (y:=lv) trivial τ
 bop t lv:=by rcases (Ri (t,lv) trivial).2 with h | h;exact .inl h;exact .inr h.2.2
theorem V6: ∃ F:List BU×Nat→Gw,∀ x:List BU×Nat,(DH x.1∧x.2<x.1.length)→(∃ k v σ,t99 (AY env pu (AV L_27) (AX I6) k) k [(AA BD).enc x.1,.int .i64 (x.2:Int)] .empty=some (v,σ)∧Bj env σ v (Ef (F x)))∧KI x.1 (F x) :=
 Ey (P:=fun x:List BU×Nat=>DH x.1∧x.2<x.1.length) (R:=fun x r=>(∃ k v σ,t99 (AY env pu (AV L_27) (AX I6) k) k [(AA BD).enc x.1,.int .i64 (x.2:Int)] .empty=some (v,σ)∧Bj env σ v (Ef r))∧KI x.1 r) fun x h=>by
  obtain ⟨K,v,σ,e1,e2⟩:=uS reads h.1 x.2 h.2
  rcases e2 with ⟨y,out,a',b,rfl,hL,h1,h2,h3⟩ | ⟨a',e,rfl,h1,h2⟩
  ·have hk:=Ik hL
   obtain ⟨q1,q2⟩:=Qc (τ:=σ) (vs:=[y,.int .i64 (a':Int),.int .i64 0]) (us:=[(AA Ae).enc out,.int .i64 (a':Int),.int .i64 0]) (by rw [BI];omega) (by rw [List.mapM_cons,List.mapM_cons,List.mapM_cons,List.mapM_nil,cK (n:=62) (by omega) hL];rfl)
   exact ⟨.terms out a',⟨K,_,σ,e1 K (Nat.le_refl _),KX q1 q2⟩,h1,h2,h3⟩
  ·exact ⟨.none a' e,⟨K,_,σ,e1 K (Nat.le_refl _),.inr ⟨(by intro h;cases h),rfl⟩⟩,h1,h2⟩
def CZ:List BU×Nat→Gw:=V6.choose
theorem QX: ∀ x:List BU×Nat,(DH x.1∧x.2<x.1.length)→(∃ k v σ,t99 (AY env pu (AV L_27) (AX I6) k) k [(AA BD).enc x.1,.int .i64 (x.2:Int)] .empty=some (v,σ)∧Bj env σ v (Ef (CZ x)))∧KI x.1 (CZ x):=V6.choose_spec
def S_99:Ac:=B6 (AA BD) AJ tV0 (fun l a=>DH l∧0≤a∧a<l.length) (fun l a=>⟨Ef (CZ (l,a.toNat)),V5 _⟩)
theorem K_99:Af env 99 S_99:=kc2 (lm:=L_27) (lt:=I6) Ar M_27 vK kP fun l a h=>by
 obtain ⟨h1,h2,h3⟩:=h
 obtain ⟨a,rfl⟩: ∃ m:Nat,a=(m:Int):=⟨a.toNat,by omega⟩
 obtain ⟨k,v,σ,e1,e2⟩:=(QX (l,a) ⟨h1,by show a<l.length;omega⟩).1
 exact ⟨k,k,v,σ,e1,e2⟩
def L_28:LT:=(99,S_99) :: L_27
theorem M_28:MO L_28:=Aq K_99 M_27
theorem RY {C:SS.Call} (h:AP env C 98 S_98) (s:B) (τ:St):C 98 [.str s] τ=some (D5 (Ii s),τ):=AP.c1 (a:=AC) (c:=tV0) (P:=fun _=>True) (g:=fun s=>⟨D5 (Ii s),UL _⟩) h (x:=s) trivial τ
theorem RZ {C:SS.Call} (h:AP env C 99 S_99) (l:List BU) (a:Nat) (τ:St) (h1:DH l) (h2:a<l.length):C 99 [(AA BD).enc l,.int .i64 (a:Int)] τ=some (Ef (CZ (l,a)),τ):=by
 have:=AP.c2 (a:=AA BD) (b:=AJ) (c:=tV0) (P:=fun l a=>DH l∧0≤a∧a<l.length) (g:=fun l a=>⟨Ef (CZ (l,a.toNat)),V5 _⟩) h (x:=l) (y:=(a:Int)) ⟨h1,by omega,by omega⟩ τ
 rw [Int.toNat_natCast] at this
 exact this
theorem Uy: ∃ F:B→IG,∀ s,True→(∃ v σ,t70 (AY env pu (AV L_28) (AX []) 1) 2000000 [.str s] .empty=some (v,σ)∧Bj env σ v (Gm (F s)))∧LZ (F s) :=
 Ey (P:=fun _:B=>True) (R:=fun s r=>(∃ v σ,t70 (AY env pu (AV L_28) (AX []) 1) 2000000 [.str s] .empty=some (v,σ)∧Bj env σ v (Gm r))∧LZ r) fun s _=>by
  obtain ⟨v,e1,e2⟩:=pG (call:=AY env pu (AV L_28) (AX []) 1) (k:=2000000) Ii (fun s=>(PZ s trivial).2) (fun s τ=>RY (Bn rfl (Nat.le_refl 1)) s τ) (fun l a=>CZ (l,a)) (fun l a h1 h2=>(QX (l,a) ⟨h1,h2⟩).2) (fun l a τ h1 h2=>RZ (Bn rfl (Nat.le_refl 1)) l a τ h1 h2) s .empty
  rcases e2 with ⟨l,rfl,h1,h2⟩ | ⟨e,a,rfl,h1⟩
  ·exact ⟨.terms l,⟨_,_,e1,.inl ⟨Ps (.terms l),rfl⟩⟩,h1,h2⟩
  ·exact ⟨.none e a,⟨_,_,e1,.inr ⟨(by intro h;cases h),rfl⟩⟩,h1⟩
def Ku:B→IG:=Uy.choose
theorem Ux: ∀ s,True→(∃ v σ,t70 (AY env pu (AV L_28) (AX []) 1) 2000000 [.str s] .empty=some (v,σ)∧Bj env σ v (Gm (Ku s)))∧LZ (Ku s):=Uy.choose_spec
def S_70:Ac:=BS AC tV0 (fun _=>True) (fun s=>⟨Gm (Ku s),Ps _⟩)
theorem K_70:Af env 70 S_70:=kc1 (lm:=L_28) (lt:=[]) Ar M_28 Aw jU fun s _=>by
 obtain ⟨v,σ,e1,e2⟩:=(Ux s trivial).1
 exact ⟨1,2000000,v,σ,e1,e2⟩
def L_29:LT:=(70,S_70) :: L_28
theorem M_29:MO L_29:=Aq K_70 M_28
theorem Su: ∃ F:List B→IC,∀ l,l.length<1000000→(∃ v σ,t71 (AY env pu (AV L_29) (AX []) 1) 2000000 [(AA AC).enc l] .empty=some (v,σ)∧Bj env σ v (FX (F l)))∧LX (F l) :=
 Ey (P:=fun l:List B=>l.length<1000000) (R:=fun l r=>(∃ v σ,t71 (AY env pu (AV L_29) (AX []) 1) 2000000 [(AA AC).enc l] .empty=some (v,σ)∧Bj env σ v (FX r))∧LX r) fun l hl=>by
  obtain ⟨v,σ,e1,e2⟩:=o5 (call:=AY env pu (AV L_29) (AX []) 1) (k:=2000000) Ii (fun s=>(PZ s trivial).2) (fun s τ=>RY (Bn rfl (Nat.le_refl 1)) s τ) (fun l a=>CZ (l,a)) (fun l a h1 h2=>(QX (l,a) ⟨h1,h2⟩).2) (fun l a τ h1 h2=>RZ (Bn rfl (Nat.le_refl 1)) l a τ h1 h2) l hl (by omega)
  rcases e2 with rfl | ⟨x,effs,b,rfl,hL,hX⟩
  ·exact ⟨.none,⟨_,_,e1,.inr ⟨(by intro h;cases h),rfl⟩⟩,trivial⟩
  ·have hk:=Ik hL
   obtain ⟨q1,q2⟩:=Qc (τ:=σ) (vs:=[x,.bool true]) (us:=[(AA Be).enc effs,.bool true]) (by rw [BI];omega) (by rw [List.mapM_cons,List.mapM_cons,List.mapM_nil,bW (n:=62) (by omega) hL];rfl)
   exact ⟨.effs effs,⟨_,σ,e1,KX q1 q2⟩,hX⟩
def KQ:List B→IC:=Su.choose
theorem Sr: ∀ l,l.length<1000000→(∃ v σ,t71 (AY env pu (AV L_29) (AX []) 1) 2000000 [(AA AC).enc l] .empty=some (v,σ)∧Bj env σ v (FX (KQ l)))∧LX (KQ l):=Su.choose_spec
def S_71:Ac:=BS (AA AC) tV0 (fun l=>l.length<1000000) (fun l=>⟨FX (KQ l),Sm _⟩)
theorem K_71:Af env 71 S_71:=kc1 (lm:=L_29) (lt:=[]) Ar M_29 Aw jV fun l h=>by
 obtain ⟨v,σ,e1,e2⟩:=(Sr l h).1
 exact ⟨1,2000000,v,σ,e1,e2⟩
def L_30:LT:=(71,S_71) :: L_29
theorem M_30:MO L_30:=Aq K_71 M_29
end
end Go.Proofs.YtglndmmlghpdpaaGreatDoor
namespace Go.Proofs.YtglndmmlghpdpaaGreatDoor
open Go SS
set_option maxRecDepth 100000
noncomputable section
def S_125:Ac:=B6 FY AJ AC (fun x _=>x.s.length<1000000000) (fun x n=>FC x.s x.lv n)
theorem K_125:Af env 125 S_125:=kc2 (lm:=L_30) (lt:=[]) Ar M_30 Aw gJ fun x n h=>by
 obtain ⟨σ,e⟩:=wF (AY env pu (AV L_30) (AX []) 1) 2000000 x.s x.lv n h
 exact ⟨1,2000000,_,σ,e,BZ (t:=AC)⟩
def L_31:LT:=(125,S_125) :: L_30
theorem M_31:MO L_31:=Aq K_125 M_30
def S_101:Ac:=BS (AA Ae) AC Cg D3
theorem K_101:Af env 101 S_101:=kc1 (lm:=L_31) (lt:=[]) Ar M_31 Aw fP fun l h=>by
 have hl:=h.1
 obtain ⟨σ,e⟩:=p9 (call:=AY env pu (AV L_31) (AX []) 1) (k:=2000000) ⟨fun n τ=>AP.c1 (aq L_31 124 S_124 rfl) (x:=n) trivial τ,fun n τ=>AP.c1 (aq L_31 103 S_103 rfl) (x:=n) trivial τ,fun n τ h1 h2=>AP.c1 (aq L_31 66 S_66 rfl) (x:=n) ⟨h1,h2⟩ τ,fun s lv n τ h=>AP.c2 (aq L_31 125 S_125 rfl) (x:=⟨s,lv⟩) (y:=n) h τ⟩ (fun l τ h=>AP.c1 (aq L_31 77 S_77 rfl) (x:=l) h τ) l h (by omega)
 exact ⟨1,2000000,_,σ,e,BZ (t:=AC)⟩
def L_32:LT:=(101,S_101) :: L_31
theorem M_32:MO L_32:=Aq K_101 M_31
def S_102:Ac:=BS (AA Be) AC GR (EG D3)
theorem K_102:Af env 102 S_102:=kc1 (lm:=L_32) (lt:=[]) Ar M_32 Aw fQ fun l h=>by
 have hl:=h.1
 have e:=pX (call:=AY env pu (AV L_32) (AX []) 1) (k:=2000000) D3 (fun l τ h=>AP.c1 (aq L_32 101 S_101 rfl) (x:=l) h τ) U7 l h (by omega) .empty
 exact ⟨1,2000000,_,_,e,BZ (t:=AC)⟩
def L_33:LT:=(102,S_102) :: L_32
theorem M_33:MO L_33:=Aq K_102 M_32
def S_72:Ac:=BS BJ AC Dg (fun t=>if I5 t then LB D3 t else [])
theorem K_72:Af env 72 S_72:=kc1 (lm:=L_33) (lt:=[]) Ar M_33 Aw jW fun t h=>by
 obtain ⟨σ,e⟩:=pY (call:=AY env pu (AV L_33) (AX []) 1) (k:=2000000) D3 (fun l τ h=>AP.c1 (aq L_33 101 S_101 rfl) (x:=l) h τ) U7 (fun s τ h=>AP.c1 (aq L_33 29 S_29 rfl) (x:=s) h τ) (fun s τ h=>AP.c1 (aq L_33 56 S_56 rfl) (x:=s) h τ) (fun c τ=>AP.c1 (aq L_33 57 S_57 rfl) (x:=c) trivial τ) (fun l τ h=>AP.c1 (aq L_33 77 S_77 rfl) (x:=l) h τ) (fun l τ h=>AP.c1 (aq L_33 100 S_100 rfl) (x:=l) h τ) (fun n τ h1 h2=>AP.c1 (aq L_33 66 S_66 rfl) (x:=n) ⟨h1,h2⟩ τ) (fun l τ h=>AP.c1 (aq L_33 102 S_102 rfl) (x:=l) h τ) (fun n h1 h2=>by have:=JP n (by omega) h2;omega) t h
 exact ⟨1,2000000,_,σ,e,BZ (t:=AC)⟩
def L_34:LT:=(72,S_72) :: L_33
theorem M_34:MO L_34:=Aq K_72 M_33
theorem YY (s:B):CE s false=Bz s:=by
 unfold CE
 split<;>simp
theorem V0 (l:List B):V.kind.kinds [V.lst (l.map V.str) false]≤1:=(O4 l .empty).2
theorem VB: ∃ F:B→Bi×Bool,∀ s,s.length<900000→(∃ v σ,t49 (AY env pu (AV L_34) (AX []) 1) 2000000 [.str s] .empty=some (v,σ)∧Bj env σ v ((Dm BJ BA).enc (F s)))∧Dg (F s).1 :=
 Ey (P:=fun s:B=>s.length<900000) (R:=fun s r=>(∃ v σ,t49 (AY env pu (AV L_34) (AX []) 1) 2000000 [.str s] .empty=some (v,σ)∧Bj env σ v ((Dm BJ BA).enc r))∧Dg r.1) fun s hs=>by
  have hP:AP env (AY env pu (AV L_34) (AX []) 1) 70 S_70:=Bn rfl (Nat.le_refl 1)
  have hE:AP env (AY env pu (AV L_34) (AX []) 1) 71 S_71:=Bn rfl (Nat.le_refl 1)
  have hS:AP env (AY env pu (AV L_34) (AX []) 1) 50 S_50:=Bn rfl (Nat.le_refl 1)
  have hA:AP env (AY env pu (AV L_34) (AX []) 1) 37 S_37:=Bn rfl (Nat.le_refl 1)
  have hW:AP env (AY env pu (AV L_34) (AX []) 1) 47 S_47:=Bn rfl (Nat.le_refl 1)
  have hC:AP env (AY env pu (AV L_34) (AX []) 1) 56 S_56:=Bn rfl (Nat.le_refl 1)
  have hT:AP env (AY env pu (AV L_34) (AX []) 1) 72 S_72:=Bn rfl (Nat.le_refl 1)
  obtain ⟨v,σ,e1,e2⟩:=o7 (call:=AY env pu (AV L_34) (AX []) 1) (k:=2000000) (fun s τ h=>AP.c1 hW (x:=s) h τ) (fun s τ h=>by have:=AP.c2 hA (x:=s) (y:=false) h τ;rw [YY] at this;exact this)
   (fun s τ h=>AP.c1 hC (x:=s) h τ) (fun s n τ h1 h2=>by have:=AP.c2 hS (x:=s) (y:=(n:Int)) ⟨h1,by omega,by omega⟩ τ;exact this) (fun s c τ h=>Sb (Bn rfl (Nat.le_refl 1)) s c τ h)
   Ku (fun s=>(Ux s trivial).2) (fun s τ=>AP.c1 (a:=AC) (c:=tV0) (P:=fun _=>True) (g:=fun s=>⟨Gm (Ku s),Ps _⟩) hP (x:=s) trivial τ)
   (fun l=>if l.length<1000000 then KQ l else .none) (fun l=>by split;exact (Sr l (by assumption)).2;trivial) (fun l τ h=>by
     rw [if_pos h]
     exact AP.f1 (a:=AA AC) (c:=tV0) (P:=fun l=>l.length<1000000) (g:=fun l=>⟨FX (KQ l),Sm _⟩) hE (x:=l) h (O4 l τ).1 (.inl (V0 l)))
   (fun t=>if I5 t then LB D3 t else []) (fun a b c d e g f τ h=>AP.c1 hT (x:=⟨a,b,c,d,e,g,f⟩) h τ) s hs
  rcases e2 with rfl | ⟨t,rfl,hT⟩
  ·exact ⟨(⟨0,[],[],[],[],[],[]⟩,false),⟨_,σ,e1,.inr ⟨(by intro h;cases h),rfl⟩⟩,by decide,by decide,by decide,by decide,⟨by decide,by simp⟩,by decide,by simp⟩
  ·exact ⟨(t,true),⟨_,σ,e1,BZ (t:=Dm BJ BA) (x:=(t,true))⟩,hT⟩
def ptF:B→Bi×Bool:=VB.choose
theorem VA: ∀ s,s.length<900000→(∃ v σ,t49 (AY env pu (AV L_34) (AX []) 1) 2000000 [.str s] .empty=some (v,σ)∧Bj env σ v ((Dm BJ BA).enc (ptF s)))∧Dg (ptF s).1:=VB.choose_spec
def S_49:Ac:=BS AC (Dm BJ BA) (fun s=>s.length<900000) ptF
theorem K_49:Af env 49 S_49:=kc1 (lm:=L_34) (lt:=[]) Ar M_34 Aw jB fun s h=>by
 obtain ⟨v,σ,e1,e2⟩:=(VA s h).1
 exact ⟨1,2000000,v,σ,e1,e2⟩
def L_35:LT:=(49,S_49) :: L_34
theorem M_35:MO L_35:=Aq K_49 M_34
def Nc (s:B) (r:AQ×Int×Int):Prop:=Ao r.1∧(r.1.right=true→∀ p∈r.1.procs,∃ L∈cut 10 s,BC L=[112,114,111,99] :: p.name :: p.locs)∧(r.1.right=true∨r.1=⟨[],[],[]⟩)
theorem U6: ∃ F:B→AQ×Int×Int,∀ s,True→(∃ v σ,t27 (AY env pu (AV L_35) (AX []) 1) 2000000 [.str s] .empty=some (v,σ)∧Bj env σ v ((LA AU AJ AJ).enc (F s)))∧Nc s (F s) :=
 Ey (P:=fun _:B=>True) (R:=fun s r=>(∃ v σ,t27 (AY env pu (AV L_35) (AX []) 1) 2000000 [.str s] .empty=some (v,σ)∧Bj env σ v ((LA AU AJ AJ).enc r))∧Nc s r) fun s _=>by
  have hS:AP env (AY env pu (AV L_35) (AX []) 1) 50 S_50:=Bn rfl (Nat.le_refl 1)
  have hW:AP env (AY env pu (AV L_35) (AX []) 1) 47 S_47:=Bn rfl (Nat.le_refl 1)
  have hV:AP env (AY env pu (AV L_35) (AX []) 1) 48 S_48:=Bn rfl (Nat.le_refl 1)
  have hT:AP env (AY env pu (AV L_35) (AX []) 1) 49 S_49:=Bn rfl (Nat.le_refl 1)
  have hM:AP env (AY env pu (AV L_35) (AX []) 1) 8 S_8:=Bn rfl (Nat.le_refl 1)
  obtain ⟨v,σ,e1,e2⟩:=o6 (call:=AY env pu (AV L_35) (AX []) 1) (k:=2000000) (pt:=ptF)
   ⟨fun s τ h=>AP.c1 hW (x:=s) h τ,fun l τ h1 h2=>AP.f1 hV (x:=l) ⟨h1,h2⟩ (O4 l τ).1 (.inl (V0 l)),fun s n τ h1 h2=>by have:=AP.c2 hS (x:=s) (y:=(n:Int)) ⟨h1,by omega,by omega⟩ τ;exact this,fun s τ h=>AP.c1 hT (x:=s) h τ,fun s h=>(VA s h).2⟩
   (fun s c τ h=>Sb (Bn rfl (Nat.le_refl 1)) s c τ h) (fun v m τ hm hv=>AP.f1 hM (x:=m) hm hv (.inr rfl)) s (by omega)
  rcases e2 with ⟨e,a,rfl,he⟩ | ⟨m,h1,h2,h3,h4,h5⟩
  ·exact ⟨(⟨[],[],[]⟩,e,a),⟨_,σ,e1,.inr ⟨(by intro h;cases h),rfl⟩⟩,⟨by show 0<1000000;omega,fun v hv=>(by simp at hv),by show 0<1000000;omega,fun v hv=>(by simp at hv),by show 0<1000000;omega,fun v hv=>(by simp at hv)⟩,fun h=>(by simp [AQ.right] at h),.inr rfl⟩
  ·exact ⟨(m,0,0),⟨_,σ,e1,KX h1 h2⟩,h4,fun _=>h5,.inl h3⟩
def pmF:B→AQ×Int×Int:=U6.choose
theorem P4: ∀ s,True→(∃ v σ,t27 (AY env pu (AV L_35) (AX []) 1) 2000000 [.str s] .empty=some (v,σ)∧Bj env σ v ((LA AU AJ AJ).enc (pmF s)))∧Nc s (pmF s):=U6.choose_spec
def S_27:Ac:=BS AC (LA AU AJ AJ) (fun _=>True) pmF
theorem K_27:Af env 27 S_27:=kc1 (lm:=L_35) (lt:=[]) Ar M_35 Aw iI fun s _=>by
 obtain ⟨v,σ,e1,e2⟩:=(P4 s trivial).1
 exact ⟨1,2000000,v,σ,e1,e2⟩
def L_36:LT:=(27,S_27) :: L_35
theorem M_36:MO L_36:=Aq K_27 M_35
end
end Go.Proofs.YtglndmmlghpdpaaGreatDoor
namespace Go.Proofs.YtglndmmlghpdpaaGreatDoor
open Go SS
set_option maxRecDepth 100000
noncomputable section
def S_33:Ac:=B6 AJ AJ AJ (fun _ m=>0<m∧m<1000000000) CK
theorem K_33:Af env 33 S_33:=kc2 (lm:=L_36) (lt:=[]) Ar M_36 Aw iQ fun n m h=>by
 have e:=pI (AY env pu (AV L_36) (AX []) 1) 2000000 n m h.1 h.2 .empty
 exact ⟨1,2000000,_,_,e,BZ (t:=AJ)⟩
def L_37:LT:=(33,S_33) :: L_36
theorem M_37:MO L_37:=Aq K_33 M_36
def S_51:Ac:=BS AJ AC (fun n=>0≤n∧n≤999) BX
theorem K_51:Af env 51 S_51:=kc1 (lm:=L_37) (lt:=[]) Ar M_37 Aw jE fun n h=>by
 have e:=Zy (AY env pu (AV L_37) (AX []) 1) 2000000 n .empty _ (AP.c1 (aq L_37 66 S_66 rfl) (x:=n) ⟨by omega,by omega⟩ .empty)
 exact ⟨1,2000000,_,_,e,BZ (t:=AC)⟩
def L_38:LT:=(51,S_51) :: L_37
theorem M_38:MO L_38:=Aq K_51 M_37
def Qg:List (FuncId×CB):=[(73,t73),(74,t74),(76,t76),(75,t75)]
theorem vJ:Dv env pu (AX Qg):=D6 jX (D6 jY (D6 j7 (D6 jZ Aw)))
def Cf (k:Nat):SS.Call:=AY env pu (AV L_38) (AX Qg) (k+1)
theorem aX (l:List Int):LY Cf l:=by
 have tn: ∀ k vs σ,Cf (k+1) 73 vs σ=t73 (Cf k) (k+1) vs σ:=fun k vs σ=>Dw (by kernel_rfl) (by kernel_rfl) (by kernel_rfl) rfl (k+1) vs σ
 have tg: ∀ k vs σ,Cf (k+1) 74 vs σ=t74 (Cf k) k vs σ:=fun k vs σ=>(Dw (by kernel_rfl) (by kernel_rfl) (by kernel_rfl) rfl (k+1) vs σ).trans rfl
 have ts: ∀ k vs σ,Cf (k+1) 76 vs σ=t76 (Cf k) k vs σ:=fun k vs σ=>(Dw (by kernel_rfl) (by kernel_rfl) (by kernel_rfl) rfl (k+1) vs σ).trans rfl
 have te: ∀ k vs σ,Cf (k+1) 75 vs σ=t75 (Cf k) k vs σ:=fun k vs σ=>(Dw (by kernel_rfl) (by kernel_rfl) (by kernel_rfl) rfl (k+1) vs σ).trans rfl
 have hp: ∀ k (n m:Int) τ,0<m→m<1000000000→Cf k 33 [.int .i64 n,.int .i64 m] τ=some (.int .i64 (CK n m),τ):=fun k n m τ h1 h2=>AP.c2 (show AP env (Cf k) 33 S_33 from Bn rfl (Nat.succ_le_succ (Nat.zero_le k))) (x:=n) (y:=m) ⟨h1,h2⟩ τ
 have nx: ∀ (a:Nat) (m:Int) τ,a<1000000→0<m→m<1000→Fd τ 0 l a→∃ (r:Int) (σ:St) (a':Nat),(∀ k,1≤k→Cf k 73 [.ptr 0 0 0,.int .i64 m] τ=some (.int .i64 r,σ))∧0≤r∧r<m∧Fed τ σ 0 l a a'∧a'≤a+1:=fun a m τ ha hm hb hq=>by
  obtain ⟨r,σ,a',h1,h2⟩:=nU l a 0 (by omega) m hm (by omega) τ hq
  refine ⟨r,σ,a',fun k hk=>?_,h2⟩
  obtain ⟨k,rfl⟩: ∃ k',k=k'+1:=⟨k - 1,by omega⟩
  rw [tn]
  exact h1 _ _ (hp k)
 refine ⟨nx,fun a τ ha hq=>?_,fun a τ ha hq=>?_,fun a τ ha hq=>?_⟩
 ·obtain ⟨s,σ,a',h1,h2⟩:=dO nx a ha τ hq
  refine ⟨s,σ,a',fun k hk=>?_,h2⟩
  obtain ⟨k,rfl⟩: ∃ k',k=k'+1:=⟨k - 1,by omega⟩
  rw [tg]
  exact h1 k (by omega)
 ·obtain ⟨s,σ,a',h1,h2⟩:=sP nx a ha τ hq
  refine ⟨s,σ,a',fun k hk=>?_,h2⟩
  obtain ⟨k,rfl⟩: ∃ k',k=k'+1:=⟨k - 1,by omega⟩
  rw [ts]
  exact h1 k (by omega)
 ·obtain ⟨K,s,σ,a',h1,h2,h3,h4,h5⟩:=aQ te nx 2 2 rfl a τ (by omega) hq
  have b1:=Rc 2 (by omega)
  have b2:=Re 2 (by omega)
  exact ⟨K,s,σ,a',h1,h2,by omega,h4,by omega⟩
theorem WC: ∃ F:List Int×Int→B,∀ x:List Int×Int,(0<x.2∧x.2≤3)→(∃ k σ,t52 (Cf k) k [(AA AJ).enc x.1,.int .i64 x.2] .empty=some (.str (F x),σ))∧Bf (F x)∧(F x).length≤2000 :=
 Ey (P:=fun x:List Int×Int=>0<x.2∧x.2≤3) (R:=fun x s=>(∃ k σ,t52 (Cf k) k [(AA AJ).enc x.1,.int .i64 x.2] .empty=some (.str s,σ))∧Bf s∧s.length≤2000) fun x h=>by
  obtain ⟨k,s,σ,e1,e2,e3⟩:=vC (aX x.1) x.2 h.1 h.2
  exact ⟨s,⟨k,σ,e1⟩,e2,e3⟩
def trF:List Int×Int→B:=WC.choose
theorem WB: ∀ x:List Int×Int,(0<x.2∧x.2≤3)→(∃ k σ,t52 (Cf k) k [(AA AJ).enc x.1,.int .i64 x.2] .empty=some (.str (trF x),σ))∧Bf (trF x)∧(trF x).length≤2000:=WC.choose_spec
def S_52:Ac:=B6 (AA AJ) AJ AC (fun _ n=>0<n∧n≤3) (fun l n=>trF (l,n))
theorem K_52:Af env 52 S_52:=kc2 (lm:=L_38) (lt:=Qg) Ar M_38 vJ jF fun l n h=>by
 obtain ⟨k,σ,e⟩:=(WB (l,n) h).1
 exact ⟨k+1,k,_,σ,e,BZ (t:=AC)⟩
def L_39:LT:=(52,S_52) :: L_38
theorem M_39:MO L_39:=Aq K_52 M_38
theorem WH: ∃ F:Raw→B,∀ x:Raw,True→(∃ σ,t28 (AY env pu (AV L_39) (AX []) 1) 2000000 [EK.enc x] .empty=some (.str (F x),σ))∧C9 (F x) 16 :=
 Ey (P:=fun _:Raw=>True) (R:=fun x s=>(∃ σ,t28 (AY env pu (AV L_39) (AX []) 1) 2000000 [EK.enc x] .empty=some (.str s,σ))∧C9 s 16) fun x _=>by
  have hP:AP env (AY env pu (AV L_39) (AX []) 1) 33 S_33:=Bn rfl (Nat.le_refl 1)
  have hD:AP env (AY env pu (AV L_39) (AX []) 1) 51 S_51:=Bn rfl (Nat.le_refl 1)
  have hT:AP env (AY env pu (AV L_39) (AX []) 1) 52 S_52:=Bn rfl (Nat.le_refl 1)
  obtain ⟨s,σ,e1,e2⟩:=uU (call:=AY env pu (AV L_39) (AX []) 1) (k:=2000000) (tr:=fun l n=>trF (l,n)) ⟨fun n m τ h1 h2=>AP.c2 hP (x:=n) (y:=m) ⟨h1,h2⟩ τ,fun n τ h1 h2=>AP.c1 hD (x:=n) ⟨h1,h2⟩ τ,fun l n τ h1 h2=>AP.c2 hT (x:=l) (y:=n) ⟨h1,h2⟩ τ,fun l n h1 h2=>(WB (l,n) ⟨h1,h2⟩).2⟩ (by omega) x
  exact ⟨s,⟨σ,e1⟩,e2⟩
def txF:Raw→B:=WH.choose
theorem vH: ∀ x:Raw,True→(∃ σ,t28 (AY env pu (AV L_39) (AX []) 1) 2000000 [EK.enc x] .empty=some (.str (txF x),σ))∧C9 (txF x) 16:=WH.choose_spec
def S_28:Ac:=BS EK AC (fun _=>True) txF
theorem K_28:Af env 28 S_28:=kc1 (lm:=L_39) (lt:=[]) Ar M_39 Aw iJ fun x _=>by
 obtain ⟨σ,e⟩:=(vH x trivial).1
 exact ⟨1,2000000,_,σ,e,BZ (t:=AC)⟩
def L_40:LT:=(28,S_28) :: L_39
theorem M_40:MO L_40:=Aq K_28 M_39
def mkF (x:Raw):AQ:=(pmF (txF x)).1
def S_7:Ac:=BS EK AU (fun _=>True) mkF
theorem K_7:Af env 7 S_7:=kc1 (lm:=L_40) (lt:=[]) Ar M_40 Aw jT fun x _=>by
 obtain ⟨σ,e⟩:=nP (call:=AY env pu (AV L_40) (AX []) 1) (k:=2000000) txF (fun x τ=>AP.c1 (aq L_40 28 S_28 rfl) (x:=x) trivial τ) pmF (fun x τ=>AP.c1 (aq L_40 27 S_27 rfl) (x:=txF x) trivial τ) x
 exact ⟨1,2000000,_,σ,e,BZ (t:=AU)⟩
def L_41:LT:=(7,S_7) :: L_40
theorem M_41:MO L_41:=Aq K_7 M_40
theorem Tl: ∃ F:AQ×Int→BL,∀ x:AQ×Int,(Ao x.1∧x.1.right=true)→(∃ v σ,t9 (AY env pu (AV L_41) (AX []) 1) 2000000 [AU.enc x.1,.int .i64 x.2] .empty=some (v,σ)∧Bj env σ v (Ay.enc (F x)))∧x.1.fits (F x)=true :=
 Ey (P:=fun x:AQ×Int=>Ao x.1∧x.1.right=true) (R:=fun x s=>(∃ v σ,t9 (AY env pu (AV L_41) (AX []) 1) 2000000 [AU.enc x.1,.int .i64 x.2] .empty=some (v,σ)∧Bj env σ v (Ay.enc s))∧x.1.fits s=true) fun x h=>by
  have hP:AP env (AY env pu (AV L_41) (AX []) 1) 33 S_33:=Bn rfl (Nat.le_refl 1)
  obtain ⟨r1,r2,_⟩:=GG h.2
  have l1:=h.1.procs
  have l2:=h.1.vars
  obtain ⟨v,σ,s,e1,e2,e3,e4⟩:=dP (call:=AY env pu (AV L_41) (AX []) 1) (k:=2000000) (fun n m τ h1 h2=>AP.c2 hP (x:=n) (y:=m) ⟨h1,h2⟩ τ) x.1 x.2 h.1 (fun p hp=>(r2 p hp).2.1) (fun v hv=>⟨(r1 v hv).2.1,Int.le_trans (r1 v hv).2.2.1 (r1 v hv).2.2.2.1,(r1 v hv).2.2.2.2⟩) (by omega) (by omega)
  exact ⟨s,⟨v,σ,e1,KX e2 e3⟩,e4⟩
def hsF:AQ×Int→BL:=Tl.choose
theorem dW: ∀ x:AQ×Int,(Ao x.1∧x.1.right=true)→(∃ v σ,t9 (AY env pu (AV L_41) (AX []) 1) 2000000 [AU.enc x.1,.int .i64 x.2] .empty=some (v,σ)∧Bj env σ v (Ay.enc (hsF x)))∧x.1.fits (hsF x)=true:=Tl.choose_spec
def S_9:Ac:=B6 AU AJ Ay (fun m _=>Ao m∧m.right=true) (fun m n=>hsF (m,n))
theorem K_9:Af env 9 S_9:=kc2 (lm:=L_41) (lt:=[]) Ar M_41 Aw kK fun m n h=>by
 obtain ⟨v,σ,e1,e2⟩:=(dW (m,n) h).1
 exact ⟨1,2000000,v,σ,e1,e2⟩
def L_42:LT:=(9,S_9) :: L_41
theorem M_42:MO L_42:=Aq K_9 M_41
end
end Go.Proofs.YtglndmmlghpdpaaGreatDoor
namespace Go.Proofs.YtglndmmlghpdpaaGreatDoor
open Go Go.Proofs Go.Shelf Go.RowKit
set_option maxRecDepth 100000
def GD:Go.Shelf.Ren:={ f:=fun x=>match x with | 156=>35 | 165=>61 | 166=>62 | 169=>63 | 240=>79 | 241=>80 | 276=>108 | 277=>109 | n=>n,t:=fun x=>match x with | 31=>37 | 9=>9 | 3=>3 | 4=>4 | 0=>0 | 20=>20 | 72=>104 | 76=>81 | 70=>101 | 37=>102 | 75=>80 | 127=>125 | 164=>157 | 5=>5 | 80=>106 | n=>n,g:=fun x=>have n:=x;n }
theorem UH:Lays.n156 Tryz.prog GD:={ mixed:=Eq.refl true,f156:=Eq.trans Tryz.func35 (congrArg some (Eq.refl (Body.n156 GD))),f165:=Eq.trans Tryz.func61 (congrArg some (Eq.refl (Body.n165 GD))),f166:=Eq.trans Tryz.func62 (congrArg some (Eq.refl (Body.n166 GD))),f169:=Eq.trans Tryz.func63 (congrArg some (Eq.refl (Body.n169 GD))),f240:=Eq.trans Tryz.func79 (congrArg some (Eq.refl (Body.n240 GD))),f241:=Eq.trans Tryz.func80 (congrArg some (Eq.refl (Body.n241 GD))),f276:=Eq.trans Tryz.func108 (congrArg some (Eq.refl (Body.n276 GD))),f277:=Eq.trans Tryz.func109 (congrArg some (Eq.refl (Body.n277 GD))),t0:=Tryz.underlying0,a0:=Tryz.isAgg0,z0:=Tryz.sizeOf0,v0:=Tryz.zeroValue0,t3:=Tryz.underlying3,a3:=Tryz.isAgg3,z3:=Tryz.sizeOf3,v3:=Tryz.zeroValue3,t4:=Tryz.underlying4,a4:=Tryz.isAgg4,z4:=Tryz.sizeOf4,v4:=Tryz.zeroValue4,t9:=Tryz.underlying9,a9:=Tryz.isAgg9,z9:=Tryz.sizeOf9,v9:=Tryz.zeroValue9,t20:=Tryz.underlying20,a20:=Tryz.isAgg20,z20:=Tryz.sizeOf20,v20:=Tryz.zeroValue20,t31:=Tryz.underlying37,a31:=Tryz.isAgg37,z31:=Tryz.sizeOf37,v31:=Tryz.zeroValue37,t37:=Tryz.underlying102,a37:=Tryz.isAgg102,z37:=Tryz.sizeOf102,v37:=Tryz.zeroValue102,t70:=Tryz.underlying101,a70:=Tryz.isAgg101,z70:=Tryz.sizeOf101,v70:=Tryz.zeroValue101,t72:=Tryz.underlying104,a72:=Tryz.isAgg104,z72:=Tryz.sizeOf104,v72:=Tryz.zeroValue104,t75:=Tryz.underlying80,a75:=Tryz.isAgg80,z75:=Tryz.sizeOf80,v75:=Tryz.zeroValue80,t76:=Tryz.underlying81,a76:=Tryz.isAgg81,z76:=Tryz.sizeOf81,v76:=Tryz.zeroValue81,t127:=Tryz.underlying125,a127:=Tryz.isAgg125,z127:=Tryz.sizeOf125,v127:=Tryz.zeroValue125,t164:=Tryz.underlying157,a164:=Tryz.isAgg157,z164:=Tryz.sizeOf157,v164:=Tryz.zeroValue157 }
theorem TK:Builder.Extra Tryz.prog GD where
 sizeBuilder:=by kernel_rfl
 liesBuilder:=by kernel_rfl
 t5:=Tryz.underlying5
 a5:=Tryz.isAgg5
 z5:=Tryz.sizeOf5
 v5:=Tryz.zeroValue5
 infoByte:=by kernel_rfl
 cellsByte:=by kernel_rfl
 sizeByte:=by kernel_rfl
 neB5:=by decide
def EQ:Go.Shelf.Ren:={ f:=fun x=>match x with | 171=>34 | 243=>60 | 246=>78 | 283=>104 | 284=>105 | 285=>106 | 286=>107 | 129=>127 | 317=>126 | 318=>128 | 319=>129 | 320=>130 | 337=>148 | 338=>149 | n=>n,t:=fun x=>match x with | 3=>3 | 9=>9 | 2=>2 | 4=>4 | 171=>152 | 0=>0 | 53=>131 | 37=>102 | 5=>5 | 173=>155 | 212=>183 | 51=>184 | 20=>20 | 213=>185 | 46=>170 | 232=>203 | 233=>204 | n=>n,g:=fun x=>match x with | 17=>5 | 18=>9 | 19=>10 | n=>n }
theorem l8:LaysM.n171 Tryz.prog EQ:={ mixed:=Eq.refl true,f129:=Eq.trans Tryz.func127 (congrArg some (Eq.refl (Body.n129 EQ))),f171:=Eq.trans Tryz.func34 (congrArg some (Eq.refl (Body.n171 EQ))),f243:=Eq.trans Tryz.func60 (congrArg some (Eq.refl (Body.n243 EQ))),f246:=Eq.trans Tryz.func78 (congrArg some (Eq.refl (Body.n246 EQ))),f283:=Eq.trans Tryz.func104 (congrArg some (Eq.refl (Body.n283 EQ))),f284:=Eq.trans Tryz.func105 (congrArg some (Eq.refl (Body.n284 EQ))),f285:=Eq.trans Tryz.func106 (congrArg some (Eq.refl (Body.n285 EQ))),f286:=Eq.trans Tryz.func107 (congrArg some (Eq.refl (Body.n286 EQ))),f317:=Eq.trans Tryz.func126 (congrArg some (Eq.refl (Body.n317 EQ))),f318:=Eq.trans Tryz.func128 (congrArg some (Eq.refl (Body.n318 EQ))),f319:=Eq.trans Tryz.func129 (congrArg some (Eq.refl (Body.n319 EQ))),f320:=Eq.trans Tryz.func130 (congrArg some (Eq.refl (Body.n320 EQ))),f337:=Eq.trans Tryz.func148 (congrArg some (Eq.refl (Body.n337 EQ))),f338:=Eq.trans Tryz.func149 (congrArg some (Eq.refl (Body.n338 EQ))),t0:=Tryz.underlying0,a0:=Tryz.isAgg0,z0:=Tryz.sizeOf0,v0:=Tryz.zeroValue0,t2:=Tryz.underlying2,a2:=Tryz.isAgg2,z2:=Tryz.sizeOf2,v2:=Tryz.zeroValue2,t3:=Tryz.underlying3,a3:=Tryz.isAgg3,z3:=Tryz.sizeOf3,v3:=Tryz.zeroValue3,t4:=Tryz.underlying4,a4:=Tryz.isAgg4,z4:=Tryz.sizeOf4,v4:=Tryz.zeroValue4,t5:=Tryz.underlying5,a5:=Tryz.isAgg5,z5:=Tryz.sizeOf5,v5:=Tryz.zeroValue5,t9:=Tryz.underlying9,a9:=Tryz.isAgg9,z9:=Tryz.sizeOf9,v9:=Tryz.zeroValue9,t20:=Tryz.underlying20,a20:=Tryz.isAgg20,z20:=Tryz.sizeOf20,v20:=Tryz.zeroValue20,t37:=Tryz.underlying102,a37:=Tryz.isAgg102,z37:=Tryz.sizeOf102,v37:=Tryz.zeroValue102,t46:=Tryz.underlying170,a46:=Tryz.isAgg170,z46:=Tryz.sizeOf170,v46:=Tryz.zeroValue170,t51:=Tryz.underlying184,a51:=Tryz.isAgg184,z51:=Tryz.sizeOf184,v51:=Tryz.zeroValue184,t53:=Tryz.underlying131,a53:=Tryz.isAgg131,z53:=Tryz.sizeOf131,v53:=Tryz.zeroValue131,t171:=Tryz.underlying152,a171:=Tryz.isAgg152,z171:=Tryz.sizeOf152,v171:=Tryz.zeroValue152,t173:=Tryz.underlying155,a173:=Tryz.isAgg155,z173:=Tryz.sizeOf155,v173:=Tryz.zeroValue155,t212:=Tryz.underlying183,a212:=Tryz.isAgg183,z212:=Tryz.sizeOf183,v212:=Tryz.zeroValue183,t213:=Tryz.underlying185,a213:=Tryz.isAgg185,z213:=Tryz.sizeOf185,t232:=Tryz.underlying203,a232:=Tryz.isAgg203,z232:=Tryz.sizeOf203,v232:=Tryz.zeroValue203,t233:=Tryz.underlying204,a233:=Tryz.isAgg204,z233:=Tryz.sizeOf204,v233:=Tryz.zeroValue204,g17:=by kernel_rfl,g18:=by kernel_rfl,g19:=by kernel_rfl,i0:=by kernel_rfl,i2:=by kernel_rfl,i3:=by kernel_rfl,i4:=by kernel_rfl,i5:=by kernel_rfl,i9:=by kernel_rfl,i20:=by kernel_rfl,i37:=by kernel_rfl,i46:=by kernel_rfl,i51:=by kernel_rfl,i53:=by kernel_rfl,i171:=by kernel_rfl,i173:=by kernel_rfl,i212:=by kernel_rfl,i232:=by kernel_rfl,i233:=by kernel_rfl,m17:=by kernel_rfl,m18:=by kernel_rfl,m19:=by kernel_rfl }
theorem U5 (n:Nat):SS.Bg n=Lib.decDigits n:=by
 induction n using Nat.strongRecOn with
 | _ n ih =>
  unfold SS.Bg
  rw [Lib.decDigits]
  by_cases h:n<10
  ·rw [if_pos h,dif_pos h]
  ·rw [if_neg h,dif_neg h,ih (n / 10) (by omega)]
theorem Zw (n:Int):SS.BX n=Lib.itoa n:=by
 unfold SS.BX Lib.itoa
 by_cases h:n<0
 ·rw [if_pos h,if_pos h,U5,show (-n).toNat=n.natAbs by omega]
 ·rw [if_neg h,if_neg h,U5]
theorem kY (l:List SS.B) (sep:SS.B):Lib.join l sep=SS.Dj sep l:=by
 induction l with
 | nil=>rfl
 | cons a r ih =>
  cases r with
  | nil=>exact Lib.join_one a sep
  | cons b r =>
   show Lib.join (a :: b :: r) sep=a++sep++SS.Dj sep (b :: r)
   rw [←ih,Lib.join_cons,Lib.join_cons]
   simp [Lib.joinTail]
theorem uP {w:World} (h:SS.GOk env (SS.DB w)):Lib.TabIs Tryz.prog w "internal/strconv.uint64pow10" .u64 Lib.pow10Tab:=by
 have hg:env.G 5=some (Lib.pow10Tab.map (SS.V.int .u64)):=by kernel_rfl
 obtain ⟨cs,t,fr,h1,h2⟩:=h.1 5 _ hg
 have h2:=h2 SS.Cd
 have key: ∀ (l:List Int) (l':List Value),SS.VRL SS.Cd (SS.DB w) (l.map (SS.V.int .u64)) l'→l'=l.map fun z=>Value.int .u64 z:=by
  intro l
  induction l with
  | nil=>intro l' h;cases h;rfl
  | cons a l ih =>
   intro l' h
   cases h with
   | cons _ _ _ l2 h3 h4 =>
    cases h3
    rw [List.map_cons,←ih l2 h4]
 have h3:=key _ _ h2
 unfold Lib.TabIs World.var?
 have hn:Tryz.prog.globalNamed "internal/strconv.uint64pow10" = some 5:=by kernel_rfl
 rw [hn]
 have h1:w.heap[5]? = some (.cells cs t fr):=h1
 simp only [Option.bind_some,h1]
 rw [←h3]
theorem lH:SS.Af env 34 (SS.BS SS.AJ SS.AC (fun n=>-999≤n∧n≤999) SS.BX):=by
 refine SS.PU (c:=SS.IQ Tryz.f34) Tryz.func34 (by kernel_rfl) (by kernel_rfl) fun ws u hg=>?_
 obtain ⟨x,y,h1,rfl,rfl⟩:=SS.QM hg
 obtain ⟨⟨p1,p2⟩,rfl⟩:=SS.Ji h1
 refine ⟨rfl,fun w vs' hgo hv=>?_⟩
 cases hv with
 | cons _ v' _ _ h2 h3 =>
  cases h2
  cases h3
  refine (Any.strconv_Itoa l8 x (by omega) (by omega) w (uP hgo)).mono fun e w' he=>?_
  obtain ⟨rfl,k,os,rfl⟩:=he
  refine ⟨_,rfl,?_,?_⟩
  ·rw [←Zw];exact .str _
  ·exact Lib.below_grow _ w (Nat.le_refl _) k os
theorem VT {M:SS.Mem}: ∀ (l:List SS.B) (r:List Value),SS.Bp SS.Cd M 1 (l.map SS.V.str) r→∀ (j:Nat) (x:ByteArray),(l.map fun s=>(⟨s.toArray⟩:ByteArray))[j]? = some x→r[j]? = some (Value.string x)
 | [],r,_,j,x,h=>by simp at h
 | s :: l,r,hr,j,x,h=>by
  cases hr with
  | cons _ _ _ cs r2 h1 h2 h3 =>
   have h1:SS.VRL SS.Cd M [SS.V.str s] cs:=h1
   cases h1 with
   | cons _ v' _ cs' g1 g2 =>
    cases g1
    cases g2
    cases j with
    | zero =>
     simp only [List.map_cons,List.getElem?_cons_zero,Option.some.injEq] at h
     subst h
     rfl
    | succ j =>
     simp only [List.map_cons,List.getElem?_cons_succ] at h
     have:=VT l r2 h3 j x h
     simpa using this
theorem lI:SS.Af env 35 (SS.B6 (SS.AA SS.AC) SS.AC SS.AC (fun l sep=>l.length≤7∧(∀ s∈l,s.length≤8)∧sep=[32]) (fun l _=>SS.Dj [32] l)):=by
 refine SS.PU (c:=SS.IQ Tryz.f35) Tryz.func35 (by kernel_rfl) (by kernel_rfl) fun ws u hg=>?_
 obtain ⟨l,sep,z,h1,rfl,rfl⟩:=SS.Vs hg
 obtain ⟨⟨p1,p2,p3⟩,rfl⟩:=SS.Ji h1
 have p3:sep=[32]:=p3
 subst p3
 refine ⟨rfl,fun w vs' hgo hv=>?_⟩
 cases hv with
 | cons _ v' _ vs2 h2 h3 =>
  cases h3 with
  | cons _ v2 _ vs3 h4 h5 =>
   cases h4
   cases h5
   match l,p1,p2,h2 with
   | [],_,_,h2 =>
    have h2:SS.VR SS.Cd (SS.DB w) .emp v':=h2
    cases h2 with
    | emp a cap _ =>
     refine (Any.strings_Join_none UH TK a cap _ w).mono fun e w' he=>?_
     obtain ⟨rfl,rfl⟩:=he
     exact ⟨_,rfl,.str _,Below.refl _ _⟩
   | s :: r,p1,p2,h2 =>
    have h2:SS.VR SS.Cd (SS.DB w) (.lst ((s :: r).map SS.V.str) false) v':=h2
    cases h2 with
    | lst _ _ _ b o cap cs t fr g1 g2 g3 g4 =>
     have g1:w.heap[b]? = some (.cells cs t fr):=g1
     have hlen:(r.map SS.V.str).length+1=((s :: r).map fun s=>(⟨s.toArray⟩:ByteArray)).length:=by simp
     have hrow:=VT (s :: r) _ g2
     have hmap:((s :: r).map fun s=>(⟨s.toArray⟩:ByteArray)).map (·.data.toList)=s :: r:=by
      rw [List.map_map]
      have:((fun x:ByteArray=>x.data.toList)∘fun s:SS.B=>(⟨s.toArray⟩:ByteArray))=id:=by funext x;rfl
      rw [this,List.map_id]
     have hj:Lib.join (((s :: r).map fun s=>(⟨s.toArray⟩:ByteArray)).map (·.data.toList)) (⟨[32].toArray⟩:ByteArray).data.toList=SS.Dj [32] (s :: r):=by
      rw [hmap];exact kY _ _
     have hjl:(SS.Dj [32] (s :: r)).length≤1000:=by
      have jl: ∀ l:List SS.B,(∀ a∈l,a.length≤8)→(SS.Dj [32] l).length≤l.length*9:=by
       intro l
       induction l with
       | nil=>intro _;simp [SS.Dj]
       | cons a q ih =>
        intro h
        have i1:=h a (by simp)
        have i2:=ih fun x hx=>h x (by simp [hx])
        cases q with
        | nil=>show a.length≤_;simp;omega
        | cons b q =>
         show (a++[32]++SS.Dj [32] (b :: q)).length≤_
         have e1:(a :: b :: q).length*9=(b :: q).length*9+9:=by rw [List.length_cons (a:=a),Nat.add_mul]
         have e2:([32]:SS.B).length=1:=rfl
         rw [List.length_append,List.length_append,e1,e2]
         omega
      have:=jl (s :: r) p2
      have p1:(s :: r).length≤7:=p1
      omega
     rw [hlen]
     refine (Any.strings_Join UH TK b o cap _ _ w (fun j x hx=>?_) (Array.getElem?_eq_some_iff.1 g1).1 ?_ ?_ ?_).mono fun e w' he=>?_
     ·have:=hrow j x hx
      rw [List.getElem?_drop] at this
      unfold World.cell?
      simp only [g1]
      simpa using this
     ·have p1:(s :: r).length≤7:=p1
      rw [List.length_map];omega
     ·rw [←hlen];exact g3
     ·rw [hj];omega
     ·obtain ⟨rfl,hb⟩:=he
      refine ⟨_,rfl,?_,hb⟩
      rw [hj]
      exact .str _
end Go.Proofs.YtglndmmlghpdpaaGreatDoor
namespace Go.Proofs.YtglndmmlghpdpaaGreatDoor
open Go SS
set_option maxRecDepth 100000
noncomputable section
def S_136:Ac:=BS tU8 BA (fun _=>True) SS.CW
theorem K_136:Af env 136 S_136:=kc1 (lm:=L_42) (lt:=[]) Ar M_42 Aw gQ fun c _=>Dl (k:=1) (k':=1) ⟨_,Yy c _⟩
def L_43:LT:=(136,S_136) :: L_42
theorem M_43:MO L_43:=Aq K_136 M_42
def S_150:Ac:=BS tU8 BA (fun _=>True) SS.Bq
theorem K_150:Af env 150 S_150:=kc1 (lm:=L_43) (lt:=[]) Ar M_43 Aw iA fun c _=>Dl (k:=1) (k':=1) ⟨_,Z5 c _⟩
def L_44:LT:=(150,S_150) :: L_43
theorem M_44:MO L_44:=Aq K_150 M_43
def S_138:Ac:=BS tU8 BA (fun _=>True) D7
theorem K_138:Af env 138 S_138:=kc1 (lm:=L_44) (lt:=[]) Ar M_44 Aw gV fun c _=>Dl (k:=1) (k':=1) ⟨_,wD (fun c τ=>AP.c1 (aq L_44 136 S_136 rfl) (x:=c) trivial τ) (fun c τ=>AP.c1 (aq L_44 150 S_150 rfl) (x:=c) trivial τ) c _⟩
def L_45:LT:=(138,S_138) :: L_44
theorem M_45:MO L_45:=Aq K_138 M_44
theorem vL:Dv env pu (AX [(137,t137)]):=D6 gR Aw
theorem rT (k:Nat) (hk:2000000<k) (s:B) (τ:St) (hs:s.length<1000000):AY env pu (AV L_45) (AX [(137,t137)]) (k+1) 137 [.str s,.fn 138 []] τ=some (.str (s.takeWhile fun c=>D7 (by8 c)),τ):=by
 rw [Dw (t:=t137) (by kernel_rfl) (by kernel_rfl) (by kernel_rfl) rfl]
 exact rU (fun c τ=>AP.c1 (show AP env (AY env pu (AV L_45) (AX [(137,t137)]) k) 138 S_138 from Bn rfl (by omega)) (x:=c) trivial τ) s hs (by omega) τ
def S_114:Ac:=BS AC BA (fun s=>s.length<1000000) isWord
theorem K_114:Af env 114 S_114:=kc1 (lm:=L_45) (lt:=[(137,t137)]) Ar M_45 vL gD fun s h=>by
 have e:=kS (call:=AY env pu (AV L_45) (AX [(137,t137)]) (2000001+1)) (k:=2000000) (fun c τ=>AP.c1 (show AP env (AY env pu (AV L_45) (AX [(137,t137)]) (2000001+1)) 136 S_136 from Bn rfl (by omega)) (x:=c) trivial τ) (fun s τ h=>rT 2000001 (by omega) s τ h) s h .empty
 exact ⟨2000001+1,2000000,_,_,e,BZ (t:=BA)⟩
def L_46:LT:=(114,S_114) :: L_45
theorem M_46:MO L_46:=Aq K_114 M_45
def S_134:Ac:=BS AJ AJ (fun _=>True) SS.arity
theorem K_134:Af env 134 S_134:=kc1 (lm:=L_46) (lt:=[]) Ar M_46 Aw gO fun n _=>Dl (k:=1) (k':=1) ⟨_,oW n _⟩
def L_47:LT:=(134,S_134) :: L_46
theorem M_47:MO L_47:=Aq K_134 M_46
def S_135:Ac:=BS Ae BA (fun t=>t.name.length<1000000∧t.loc.length<1000000) Al.may
theorem K_135:Af env 135 S_135:=kc1 (lm:=L_47) (lt:=[]) Ar M_47 Aw gP fun t h=>by
 obtain ⟨σ,e⟩:=nL (call:=AY env pu (AV L_47) (AX []) 1) (k:=2000000) (fun s τ h=>AP.c1 (aq L_47 114 S_114 rfl) (x:=s) h τ) (fun n τ=>AP.c1 (aq L_47 134 S_134 rfl) (x:=n) trivial τ) t h
 exact ⟨1,2000000,_,σ,e,BZ (t:=BA)⟩
def L_48:LT:=(135,S_135) :: L_47
theorem M_48:MO L_48:=Aq K_135 M_47
def S_113:Ac:=BS (AA Ae) BA Cg Ck
theorem K_113:Af env 113 S_113:=kc1 (lm:=L_48) (lt:=[]) Ar M_48 Aw gC fun l h=>by
 have hl:=h.1
 obtain ⟨σ,e⟩:=qV (call:=AY env pu (AV L_48) (AX []) 1) (k:=2000000) (fun t τ h1 h2=>AP.c1 (aq L_48 135 S_135 rfl) (x:=t) ⟨h1,h2⟩ τ) (fun n τ=>AP.c1 (aq L_48 134 S_134 rfl) (x:=n) trivial τ) l h (by omega) .empty
 exact ⟨1,2000000,_,σ,e,BZ (t:=BA)⟩
def L_49:LT:=(113,S_113) :: L_48
theorem M_49:MO L_49:=Aq K_113 M_48
def S_43:Ac:=B6 (AA AC) AC AJ (fun l _=>l.length<1000000) (fun l s=>find s l)
theorem K_43:Af env 43 S_43:=kc2 (lm:=L_49) (lt:=[]) Ar M_49 Aw iV fun l s h=>by
 have e:=eZ (call:=AY env pu (AV L_49) (AX []) 1) (k:=2000000) l h (by omega) s .empty
 exact ⟨1,2000000,_,_,e,BZ (t:=AJ)⟩
def L_50:LT:=(43,S_43) :: L_49
theorem M_50:MO L_50:=Aq K_43 M_49
def S_85:Ac:=B6 (AA AC) AC BA (fun l _=>l.length<1000000) (fun l s=>decide (0≤find s l))
theorem K_85:Af env 85 S_85:=kc2 (lm:=L_50) (lt:=[]) Ar M_50 Aw kG fun l s h=>by
 have e:=Zb (call:=AY env pu (AV L_50) (AX []) 1) (k:=2000000) (fun l s τ h=>AP.c2 (aq L_50 43 S_43 rfl) (x:=l) (y:=s) h τ) l h s .empty
 exact ⟨1,2000000,_,_,e,BZ (t:=BA)⟩
def L_51:LT:=(85,S_85) :: L_50
theorem M_51:MO L_51:=Aq K_85 M_50
def H5:List (FuncId×CB):=[(110,t110),(82,t82),(132,t132),(131,t131),(83,t83),(133,t133)]
theorem Qh:Dv env pu (AX H5):=D6 fV (D6 kD (D6 gM (D6 gL (D6 kE (D6 gN Aw)))))
theorem Nt {lm:List (FuncId×Ac)} (h: ∀ f,f=110∨f=82∨f=132∨f=131∨f=83∨f=133→AV lm f=none):LQ (AY env pu (AV lm) (AX H5) (2000000+1+1+1)) where
 idxVar l b s σ hl hn:=by
  rw [Dw (t:=t110) (h _ (by simp)) (by kernel_rfl) (by kernel_rfl) rfl]
  refine Tq _ (fun v b s σ hn=>?_) l hl (by omega) b s σ hn
  rw [Dw (t:=t131) (h _ (by simp)) (by kernel_rfl) (by kernel_rfl) rfl]
  exact kR v b s σ hn
 hasVar l b s σ hl hn:=by
  rw [Dw (t:=t82) (h _ (by simp)) (by kernel_rfl) (by kernel_rfl) rfl]
  have key: ∃ σ',AY env pu (AV lm) (AX H5) (2000000+1+1) 110 [(AA BF).enc l,.fn 83 [.ptr b 0 0]] σ=some (.int .i64 (find s (l.map (·.name))),σ')∧CU σ σ':=by
   rw [Dw (t:=t110) (h _ (by simp)) (by kernel_rfl) (by kernel_rfl) rfl]
   refine Tq _ (fun v b s σ hn=>?_) l hl (by omega) b s σ hn
   rw [Dw (t:=t83) (h _ (by simp)) (by kernel_rfl) (by kernel_rfl) rfl]
   exact kQ v b s σ hn
  obtain ⟨σ',e1,e2⟩:=key
  exact ⟨σ',Za e1,e2⟩
 idxProc l b s σ hl hn:=by
  rw [Dw (t:=t132) (h _ (by simp)) (by kernel_rfl) (by kernel_rfl) rfl]
  refine eD _ (fun v b s σ hn=>?_) l hl (by omega) b s σ hn
  rw [Dw (t:=t133) (h _ (by simp)) (by kernel_rfl) (by kernel_rfl) rfl]
  exact fK v b s σ hn
theorem oH: ∀ f,f=110∨f=82∨f=132∨f=131∨f=83∨f=133→AV L_51 f=none:=by
 rintro f (rfl | rfl | rfl | rfl | rfl | rfl)<;>kernel_rfl
def S_111:Ac:=B6 AU AC AJ (fun m _=>Ao m) (fun m s=>m.variable s)
theorem K_111:Af env 111 S_111:=kc2 (lm:=L_51) (lt:=H5) Ar M_51 Qh fZ fun m s h=>by
 obtain ⟨σ,e⟩:=vZ (Nt oH) (k:=2000000) m s h
 exact ⟨_,2000000,_,σ,e,BZ (t:=AJ)⟩
def L_52:LT:=(111,S_111) :: L_51
theorem M_52:MO L_52:=Aq K_111 M_51
theorem oI: ∀ f,f=110∨f=82∨f=132∨f=131∨f=83∨f=133→AV L_52 f=none:=by
 rintro f (rfl | rfl | rfl | rfl | rfl | rfl)<;>kernel_rfl
def S_112:Ac:=Hz AU AC AC (Dm AJ AJ) (fun m _ _=>Ao m) (fun m s q=>(m.process s,m.place (m.process s) q))
theorem K_112:Af env 112 S_112:=kc3 (lm:=L_52) (lt:=H5) Ar M_52 Qh gB fun m s q h=>by
 obtain ⟨σ,e⟩:=pJ (Nt oI) (k:=2000000) (fun l s τ h=>AP.c2 (show AP env (AY env pu (AV L_52) (AX H5) (2000000+1+1+1)) 43 S_43 from Bn rfl (by omega)) (x:=l) (y:=s) h τ) m s q h
 exact ⟨_,2000000,_,σ,e,BZ (t:=Dm AJ AJ) (x:=(m.process s,m.place (m.process s) q))⟩
def L_53:LT:=(112,S_112) :: L_52
theorem M_53:MO L_53:=Aq K_112 M_52
def S_84:Ac:=B6 AU (AA Ae) BA (fun m l=>Ao m∧Cg l) AQ.known
theorem K_84:Af env 84 S_84:=kc2 (lm:=L_53) (lt:=[]) Ar M_53 Aw kF fun m l h=>by
 have hl:=h.2.1
 obtain ⟨σ,e⟩:=lV (call:=AY env pu (AV L_53) (AX []) 1) (k:=2000000) (fun m s τ h=>AP.c2 (aq L_53 111 S_111 rfl) (x:=m) (y:=s) h τ) (fun m s q τ h=>AP.c3 (aq L_53 112 S_112 rfl) (x:=m) (y:=s) (z:=q) h τ) (fun l τ h=>AP.c1 (aq L_53 113 S_113 rfl) (x:=l) h τ) m l h.1 h.2 (by omega)
 exact ⟨1,2000000,_,σ,e,BZ (t:=BA)⟩
def L_54:LT:=(84,S_84) :: L_53
theorem M_54:MO L_54:=Aq K_84 M_53
def S_86:Ac:=BS AC BA (fun s=>s.length<1000000) Ee
theorem K_86:Af env 86 S_86:=kc1 (lm:=L_54) (lt:=[]) Ar M_54 Aw kH fun s h=>by
 have e:=uJ (call:=AY env pu (AV L_54) (AX []) 1) (k:=2000000) (fun s τ h=>AP.c1 (aq L_54 114 S_114 rfl) (x:=s) h τ) s h .empty
 exact ⟨1,2000000,_,_,e,BZ (t:=BA)⟩
def L_55:LT:=(86,S_86) :: L_54
theorem M_55:MO L_55:=Aq K_86 M_54
def S_87:Ac:=BS BF BA (fun _=>True) bnd
theorem K_87:Af env 87 S_87:=kc1 (lm:=L_55) (lt:=[]) Ar M_55 Aw kI fun v _=>by
 obtain ⟨σ,e⟩:=Y6 (AY env pu (AV L_55) (AX []) 1) 2000000 v
 exact ⟨1,2000000,_,σ,e,BZ (t:=BA)⟩
def L_56:LT:=(87,S_87) :: L_55
theorem M_56:MO L_56:=Aq K_87 M_55
def S_81:Ac:=B6 AU AC (AA AC) (fun m _=>Ao m) AQ.zAP
theorem K_81:Af env 81 S_81:=kc2 (lm:=L_56) (lt:=[]) Ar M_56 Aw kC fun m s h=>by
 have hl:=h.procs
 obtain ⟨v,σ,e1,e2⟩:=pQ (call:=AY env pu (AV L_56) (AX []) 1) (k:=2000000) m s h (by omega)
 exact ⟨1,2000000,v,σ,e1,e2⟩
def L_57:LT:=(81,S_81) :: L_56
theorem M_57:MO L_57:=Aq K_81 M_56
def S_88:Ac:=BS (AA AC) BA (fun l=>l.length<1000000∧∀ s∈l,s.length<1000000) Gf
theorem K_88:Af env 88 S_88:=kc1 (lm:=L_57) (lt:=[]) Ar M_57 Aw kJ fun l h=>by
 have hl:=h.1
 obtain ⟨σ,e⟩:=nS (call:=AY env pu (AV L_57) (AX []) 1) (k:=2000000) (fun s τ h=>AP.c1 (aq L_57 114 S_114 rfl) (x:=s) h τ) l h.1 h.2 (by omega)
 exact ⟨1,2000000,_,σ,e,BZ (t:=BA)⟩
def L_58:LT:=(88,S_88) :: L_57
theorem M_58:MO L_58:=Aq K_88 M_57
def S_65:Ac:=BS AU BA Ao Jg
theorem K_65:Af env 65 S_65:=kc1 (lm:=L_58) (lt:=[]) Ar M_58 Aw jQ fun m h=>by
 have l1:=h.vars;have l2:=h.procs
 have hB:AP env (AY env pu (AV L_58) (AX []) 1) 87 S_87:=Bn rfl (Nat.le_refl 1)
 have hN:AP env (AY env pu (AV L_58) (AX []) 1) 88 S_88:=Bn rfl (Nat.le_refl 1)
 obtain ⟨σ,e⟩:=nR (call:=AY env pu (AV L_58) (AX []) 1) (k:=2000000) ⟨fun v τ=>AP.c1 hB (x:=v) trivial τ,fun v l τ hv h1 h2=>AP.f1 hN (x:=l) ⟨h1,h2⟩ hv (.inr rfl)⟩ m h (by omega) (by omega)
 exact ⟨1,2000000,_,σ,e,BZ (t:=BA)⟩
def L_59:LT:=(65,S_65) :: L_58
theorem M_59:MO L_59:=Aq K_65 M_58
theorem oJ: ∀ f,f=110∨f=82∨f=132∨f=131∨f=83∨f=133→AV L_59 f=none:=by
 rintro f (rfl | rfl | rfl | rfl | rfl | rfl)<;>kernel_rfl
def S_64:Ac:=B6 AU BJ BA (fun m t=>Ao m∧Dg t) AQ.rightT
theorem K_64:Af env 64 S_64:=kc2 (lm:=L_59) (lt:=H5) Ar M_59 Qh jP fun m t h=>by
 have hl:=h.2.2.2.2.2.2.1
 have q: ∀ {f g},AV L_59 f=some g→AP env (AY env pu (AV L_59) (AX H5) (2000000+1+1+1)) f g:=fun h=>Bn h (by omega)
 obtain ⟨σ,e⟩:=nQ (Nt oJ) ⟨fun m s τ h=>AP.c2 (show AP env _ 81 S_81 from q rfl) (x:=m) (y:=s) h τ,fun l s τ h=>AP.c2 (show AP env _ 85 S_85 from q rfl) (x:=l) (y:=s) h τ,fun m l τ h1 h2=>AP.c2 (show AP env _ 84 S_84 from q rfl) (x:=m) (y:=l) ⟨h1,h2⟩ τ,fun s τ h=>AP.c1 (show AP env _ 86 S_86 from q rfl) (x:=s) h τ⟩ (k:=2000000) m t h.1 h.2 (by omega)
 exact ⟨_,2000000,_,σ,e,BZ (t:=BA)⟩
def L_60:LT:=(64,S_64) :: L_59
theorem M_60:MO L_60:=Aq K_64 M_59
def S_36:Ac:=BS AU BA Ao AQ.right
theorem K_36:Af env 36 S_36:=kc1 (lm:=L_60) (lt:=[]) Ar M_60 Aw iR fun m h=>by
 have hl:=h.trans
 obtain ⟨σ,e⟩:=qW (call:=AY env pu (AV L_60) (AX []) 1) (k:=2000000) (fun m t τ h1 h2=>AP.c2 (aq L_60 64 S_64 rfl) (x:=m) (y:=t) ⟨h1,h2⟩ τ) (fun m τ h=>AP.c1 (aq L_60 65 S_65 rfl) (x:=m) h τ) m h (by omega)
 exact ⟨1,2000000,_,σ,e,BZ (t:=BA)⟩
def L_61:LT:=(36,S_36) :: L_60
theorem M_61:MO L_61:=Aq K_36 M_60
def S_12:Ac:=B6 AU Ay BA (fun m s=>Ao m∧CJ s) (fun m s=>m.right&&m.fits s)
theorem K_12:Af env 12 S_12:=kc2 (lm:=L_61) (lt:=[]) Ar M_61 Aw gF fun m s h=>by
 have l1:=h.1.vars;have l2:=h.1.procs
 obtain ⟨σ,e⟩:=tO (call:=AY env pu (AV L_61) (AX []) 1) (k:=2000000) (fun m τ h=>AP.c1 (aq L_61 36 S_36 rfl) (x:=m) h τ) m s h.1 h.2 (by omega) (by omega)
 exact ⟨1,2000000,_,σ,e,BZ (t:=BA)⟩
def L_62:LT:=(12,S_12) :: L_61
theorem M_62:MO L_62:=Aq K_12 M_61
def S_13:Ac:=Hz AU Ay AC AC (fun m s _=>Ao m∧CJ s) Pz
theorem K_13:Af env 13 S_13:=kc3 (lm:=L_62) (lt:=[]) Ar M_62 Aw gK fun m s q h=>by
 have l2:=h.1.procs
 obtain ⟨σ,e⟩:=tM (call:=AY env pu (AV L_62) (AX []) 1) (k:=2000000) (fun m s τ h1 h2=>AP.c2 (aq L_62 12 S_12 rfl) (x:=m) (y:=s) ⟨h1,h2⟩ τ) m s q h.1 h.2 (by omega)
 exact ⟨1,2000000,_,σ,e,BZ (t:=AC)⟩
def L_63:LT:=(13,S_13) :: L_62
theorem M_63:MO L_63:=Aq K_13 M_62
def S_34:Ac:=BS AJ AC (fun n=>-999≤n∧n≤999) BX
theorem K_34:Af env 34 S_34:=lH
def L_64:LT:=(34,S_34) :: L_63
theorem M_64:MO L_64:=Aq K_34 M_63
def S_35:Ac:=B6 (AA AC) AC AC (fun l sep=>l.length≤7∧(∀ s∈l,s.length≤8)∧sep=[32]) (fun l _=>Dj [32] l)
theorem K_35:Af env 35 S_35:=lI
def L_65:LT:=(35,S_35) :: L_64
theorem M_65:MO L_65:=Aq K_35 M_64
def S_11:Ac:=B6 AU Ay AC (fun m s=>Ao m∧CJ s) CQ
theorem K_11:Af env 11 S_11:=kc2 (lm:=L_65) (lt:=[]) Ar M_65 Aw fU fun m s h=>by
 have l2:=h.1.procs
 have l3:=h.2.2
 have hJ:AP env (AY env pu (AV L_65) (AX []) 1) 35 S_35:=Bn rfl (Nat.le_refl 1)
 obtain ⟨σ,e⟩:=tN (call:=AY env pu (AV L_65) (AX []) 1) (k:=2000000) (fun m s τ h1 h2=>AP.c2 (aq L_65 12 S_12 rfl) (x:=m) (y:=s) ⟨h1,h2⟩ τ) (fun n τ h1 h2=>AP.c1 (aq L_65 34 S_34 rfl) (x:=n) ⟨h1,h2⟩ τ) (fun v l τ hv h1 h2=>AP.f2 hJ (x:=l) (y:=[32]) ⟨h1,h2,rfl⟩ (bT hv) (.inr rfl)) m s h.1 h.2 (by omega) (by omega)
 exact ⟨1,2000000,_,σ,e,BZ (t:=AC)⟩
def L_66:LT:=(11,S_11) :: L_65
theorem M_66:MO L_66:=Aq K_11 M_65
def S_14:Ac:=BS AC (Dm AJ BA) (fun s=>s.length<1000000) (fun s=>CE s true)
theorem K_14:Af env 14 S_14:=kc1 (lm:=L_66) (lt:=[]) Ar M_66 Aw gW fun s h=>by
 have e:=YU (call:=AY env pu (AV L_66) (AX []) 1) (k:=2000000) (fun s g τ h=>AP.c2 (aq L_66 37 S_37 rfl) (x:=s) (y:=g) h τ) s h .empty
 exact ⟨1,2000000,_,_,e,BZ (t:=Dm AJ BA)⟩
def L_67:LT:=(14,S_14) :: L_66
theorem M_67:MO L_67:=Aq K_14 M_66
end
end Go.Proofs.YtglndmmlghpdpaaGreatDoor
namespace Go.Proofs.YtglndmmlghpdpaaGreatDoor
open Go SS
set_option maxRecDepth 100000
theorem bG {l:List B} (h:twice l=false) (i:Nat) (hi:i<l.length):find l[i] l=(i:Int):=by
 unfold find
 have:l.findIdx? (·==l[i])=some i:=by
  rw [List.findIdx?_eq_some_iff_getElem]
  refine ⟨hi,by simp,fun j hj=>?_⟩
  intro e
  have e:l[j]=l[i]:=by simpa using e
  have:=(M5 _).1 h i hi
  apply this
  rw [←e]
  have hj2:j<(l.take i).length:=by simp;omega
  have h2:(l.take i)[j]=l[j]:=by simp
  rw [←h2]
  exact List.getElem_mem hj2
 rw [this]
theorem mT {m:AQ} (h:m.right=true): ∀ p∈m.procs,twice p.locs=false:=by
 unfold AQ.right at h
 simp only [Bool.and_eq_true,decide_eq_true_eq,List.all_eq_true,Bool.not_eq_true'] at h
 intro p hp
 have:=h.2.1 p hp
 unfold Bl.right at this
 simp only [Bool.and_eq_true,decide_eq_true_eq,List.all_eq_true,Bool.not_eq_true'] at this
 exact this.2.2.2.1
def Gh (num:B→Int) (m:AQ) (t:B):BL:=⟨(m.procs.zip (cut 32 t)).map (fun p=>find p.2 p.1.locs),((cut 32 t).drop m.procs.length).map num⟩
def Iq (num:B→Int) (m:AQ) (t:B):BL×Bool :=
 if m.right&&decide ((cut 32 t).length=m.procs.length+m.vars.length) then
  (if m.fits (Gh num m t)&&decide (CQ m (Gh num m t)=t) then (Gh num m t,true) else (⟨[],[]⟩,false))
 else (⟨[],[]⟩,false)
theorem P8 {num:B→Int} (hn: ∀ k,-999≤k→k≤999→num (BX k)=k) {m:AQ} {s:BL} (hr:m.right=true) (hf:m.fits s=true):Gh num m (CQ m s)=s:=by
 obtain ⟨f1,f2,f3,f4⟩:=(FL m s).1 hf
 have hl:=Ge m s f1
 unfold Gh
 rw [Px hr hf]
 have e1:(m.procs.zip (Ci m s++s.vals.map BX)).map (fun p=>find p.2 p.1.locs)=s.locs:=by
  apply List.ext_getElem
  ·simp [List.length_zip,hl];omega
  ·intro i h1 h2
   have hi:i<m.procs.length:=by omega
   obtain ⟨n,hn2,hlt,e,_⟩:=Pg hr hf i hi h2
   have hli:i<(Ci m s).length:=by omega
   rw [List.getElem?_eq_getElem hli] at e
   rw [List.getElem_map,List.getElem_zip,List.getElem_append_left hli,Option.some.inj e,hn2]
   exact bG (mT hr _ (List.getElem_mem hi)) n hlt
 have e2:((Ci m s++s.vals.map BX).drop m.procs.length).map num=s.vals:=by
  rw [←hl,List.drop_left,List.map_map]
  apply List.ext_getElem
  ·simp
  ·intro i h1 h2
   rw [List.getElem_map]
   obtain ⟨u0,u1⟩:=f4 i (by omega) h2
   obtain ⟨_,v1,v2,v3,v4⟩:=(GG hr).1 _ (List.getElem_mem (show i<m.vars.length by omega))
   exact hn _ (by omega) (by omega)
 rw [e1,e2]
theorem Uz {num:B→Int} (hn: ∀ k,-999≤k→k≤999→num (BX k)=k) {m:AQ} {s:BL} (hr:m.right=true) (hf:m.fits s=true):Iq num m (CQ m s)=(s,true):=by
 obtain ⟨f1,f2,_⟩:=(FL m s).1 hf
 have hl:(cut 32 (CQ m s)).length=m.procs.length+m.vars.length:=by
  rw [Px hr hf,List.length_append,Ge m s f1,List.length_map];omega
 unfold Iq
 rw [P8 hn hr hf,hr,hf,hl]
 simp
def amN (w:B):Int:=(CE w true).1
theorem RP (k:Int) (h1: -999≤k) (h2:k≤999):amN (BX k)=k:=by unfold amN;rw [YX k h1 h2]
theorem qA {m:AQ} {s t:BL} (hr:m.right=true) (hs:m.fits s=true) (ht:m.fits t=true):CQ m s=CQ m t↔s=t:=by
 constructor
 ·intro h
  have h1:=P8 RP hr hs
  have h2:=P8 RP hr ht
  rw [h,h2] at h1
  exact h1.symm
 ·rintro rfl;rfl
def Dz (m:AQ):BL:=⟨m.procs.map fun _=>0,m.vars.map (·.init)⟩
theorem fA {m:AQ} (hr:m.right=true):m.fits (Dz m)=true:=by
 obtain ⟨r1,r2,_⟩:=GG hr
 refine (FL m _).2 ⟨by simp [Dz],by simp [Dz],fun i h1 h2=>?_,fun i h1 h2=>?_⟩
 ·have:=(r2 _ (List.getElem_mem h1)).2.1
  simp [Dz];omega
 ·have:=(r1 _ (List.getElem_mem h1)).2
  simp [Dz];omega
theorem aP {call:SS.Call} {k:Nat} (a b:List Int) (ha:a.length<1000000) (hb:b.length<1000000) (hk:a.length<k) (τ:St) :
 t40 call k [(AA AJ).enc a,(AA AJ).enc b] τ=some (.bool (decide (a=b)),τ):=by
 generalize hw:t40 call k [(AA AJ).enc a,(AA AJ).enc b] τ=w
 unfold t40 at hw
 by_cases hl:a.length=b.length
 ·have hl':=eq_true (show (a.length:Int)=(b.length:Int) by omega)
  have hbd: ∀ (i:Nat) (hi:i<a.length),t40_0 call k [(AA AJ).enc a,(AA AJ).enc b,.int .i64 (a.length:Int),.int .i64 (i:Int)] τ=(bif decide (a[i]=b[i]'(by omega)) then some (.norm,[(AA AJ).enc a,(AA AJ).enc b,.int .i64 (a.length:Int),.int .i64 ((i+1:Nat):Int)],τ) else some (.ret,[.bool false],τ)):=by
   intro i hi
   have hi':=eq_true (show (i:Int)<(a.length:Int) by omega)
   have h2:i<b.length:=by omega
   unfold t40_0
   by_cases d:a[i]=b[i]
   ·have d':=eq_true d
    rw [decide_eq_true d]
    simp (disch:=first | exact dD _ | assumption) only [↓reduceIte,↓rK,rO,hi',d',cond_true]
    rfl
   ·have d':=eq_false d
    rw [decide_eq_false d]
    simp (disch:=first | exact dD _ | assumption) only [↓reduceIte,↓rK,rO,hi',d',cond_false]
  obtain ⟨τ2,g1,rfl⟩:=Ea (P:=t40_0 call k) (I:=fun σ=>σ=τ) (mk:=fun i=>[(AA AJ).enc a,(AA AJ).enc b,.int .i64 (a.length:Int),.int .i64 (i:Int)]) (fin:=[]) (res:=[.bool false]) (id:=0) (n:=a.length)
   (ok:=fun i=>if h:i<a.length then decide (a[i]=b[i]'(by omega)) else true)
   (by
     rintro i σ hi rfl ho
     simp only [dif_pos hi] at ho
     exact ⟨σ,by rw [hbd i hi,ho];rfl,rfl⟩)
   (by
     rintro i σ hi rfl ho
     simp only [dif_pos hi] at ho
     exact ⟨σ,by rw [hbd i hi,ho];rfl,rfl⟩)
   (by
     rintro σ rfl
     refine ⟨σ,?_,rfl⟩
     have hi':=eq_false (show ¬(a.length:Int)<(a.length:Int) by omega)
     unfold t40_0
     simp (disch:=first | exact dD _ | assumption) only [↓reduceIte,↓rK,rP,hi'])
   a.length 0 k τ (by omega) hk rfl
  have key:DN (fun i=>if h:i<a.length then decide (a[i]=b[i]'(by omega)) else true) a.length 0=decide (a=b):=by
   rw [Bool.eq_iff_iff,Gy,decide_eq_true_eq]
   constructor
   ·intro h
    refine List.ext_getElem hl fun i h1 h2=>?_
    have:=h i (by omega) (by omega)
    simpa only [dif_pos h1,decide_eq_true_eq] using this
   ·rintro rfl i _ hi
    have hi:i<a.length:=by omega
    simp [hi]
  rw [key,show ((0:Nat):Int)=0 from rfl] at g1
  simp (disch:=first | exact dD _ | assumption) only [↓reduceIte,↓rK,rO,hl',g1] at hw
  cases hd:decide (a=b) with
  | true =>
   rw [hd] at hw
   simp only [rO,cond_true] at hw
   unfold t40_1 at hw
   simp only [↓rK,rO,AL] at hw
   exact hw.symm
  | false =>
   rw [hd] at hw
   simp only [rO,AL,cond_false] at hw
   exact hw.symm
 ·have hl':=eq_false (show ¬(a.length:Int)=(b.length:Int) by omega)
  simp (disch:=first | exact dD _ | assumption) only [↓reduceIte,↓rK,rO,AL,hl'] at hw
  rw [decide_eq_false (fun h=>hl (by rw [h]))]
  exact hw.symm
theorem BL.zAD (a b:BL):a=b↔a.locs=b.locs∧a.vals=b.vals:=by cases a;cases b;simp
instance:DecidableEq BL:=fun a b=>decidable_of_iff _ (BL.zAD a b).symm
theorem rW (a b:BL):(decide (a.locs=b.locs)&&decide (a.vals=b.vals))=decide (a=b):=by
 rw [Bool.eq_iff_iff,Bool.and_eq_true,decide_eq_true_eq,decide_eq_true_eq,decide_eq_true_eq,BL.zAD]
theorem rX {call:SS.Call} {k:Nat} (h1: ∀ (a b:List Int) τ,a.length<1000000→b.length<1000000→call 40 [(AA AJ).enc a,(AA AJ).enc b] τ=some (.bool (decide (a=b)),τ)) (a b:BL) (ha:CJ a) (hb:CJ b) :
 ∃ σ,t18 call k [Ay.enc a,Ay.enc b] .empty=some (.bool (decide (a=b)),σ):=by
 have q1:=fun τ=>h1 a.locs b.locs τ ha.1 hb.1
 have q2:=fun τ=>h1 a.vals b.vals τ ha.2 hb.2
 generalize hw:t18 call k [Ay.enc a,Ay.enc b] .empty=w
 unfold t18 at hw
 rw [←rW]
 cases hd:decide (a.locs=b.locs) with
 | true =>
  rw [hd] at q1
  simp (disch:=first | exact dD _ | assumption) only [↓reduceIte,↓rK,rO,AL,Nat.reduceEqDiff,q1,q2] at hw
  exact ⟨_,hw.symm⟩
 | false =>
  rw [hd] at q1
  simp (disch:=first | exact dD _ | assumption) only [↓reduceIte,↓rK,rO,AL,Nat.reduceEqDiff,q1] at hw
  exact ⟨_,hw.symm⟩
theorem Q0:Cm env.P 3=some (.int .i64 0):=by kernel_rfl
theorem M6:env.P.underlying 33=some (.slice 3):=by kernel_rfl
theorem QV: ∃ i,env.P.info? 3=some i∧i.size=1∧i.bytes=8:=⟨_,rfl,by kernel_rfl,by kernel_rfl⟩
theorem nN {R:Type} (n:Nat) (hn:n<1000000) (σ:St) (K:V→St→Option R):pK (Dk env 33 (.int .i64 (n:Int)) (.int .i64 (n:Int)) σ) K=K (.ref σ.n 0 0 n (some n)) (σ.new (.blk (List.replicate n (.int .i64 0)) 3 0 false)):=by
 obtain ⟨i,h1,h2,h3⟩:=QV
 have e:Dk env 33 (.int .i64 (n:Int)) (.int .i64 (n:Int)) σ=some (.ref σ.n 0 0 n (some n),σ.new (.blk (List.replicate n (.int .i64 0)) 3 0 false)):=by
  have e0:Dk env 33 (.int .i64 (n:Int)) (.int .i64 (n:Int)) σ=(match env.P.info? 3,Cm env.P 3 with
   | some i,some z=>if (Nat.ble n n&&Nat.ble (i.bytes*n) 140737488355328&&Nat.ble n 4294967296&&Nat.beq z.cells.length i.size&&Nat.blt 0 i.size)=true then some (.ref σ.n 0 0 n (some n),σ.new (.blk (Cq n z.cells) 3 0 false)) else none
   | _,_=>none):=by
   unfold Dk
   rw [M6];rfl
  rw [e0,h1,Q0]
  have a1:Nat.ble n n=true:=Nat.ble_eq_true_of_le (Nat.le_refl _)
  have a2:Nat.ble (i.bytes*n) 140737488355328=true:=Nat.ble_eq_true_of_le (by rw [h3];omega)
  have a3:Nat.ble n 4294967296=true:=Nat.ble_eq_true_of_le (by omega)
  have a4:Nat.beq (V.int .i64 0).cells.length i.size=true:=by rw [h2];rfl
  have a5:Nat.blt 0 i.size=true:=by rw [h2];rfl
  simp only [a1,a2,a3,a4,a5,Bool.and_self,if_true]
  have:Cq n (V.int .i64 0).cells=List.replicate n (V.int .i64 0):=by
   unfold Cq
   show (List.replicate n [V.int .i64 0]).flatten=_
   simp [List.flatten_replicate_singleton]
  rw [this]
 rw [e];rfl
theorem bY {σ:St} {b n:Nat} {cs:List Int} (hg:σ.get b=some (.blk (rows AJ cs) 3 0 false)) (hn:cs.length=n) (hb:b<σ.n) {d:Nat} (hd:1≤d):frz env σ (d+1) (.ref b 0 0 n (some n))=some ((AA AJ).enc cs):=by
 have h:Lst σ 3 1 (.ref b 0 0 cs.length none) cs.length (rows AJ cs) b:=.inr ⟨0,rfl,hg,by rw [Iy (sz:=1) (fun _=>rfl)],hb⟩
 subst hn
 have:=FM hd h
 exact this
theorem Mi (cs:List Int):rows AJ cs=cs.map (V.int .i64):=by
 induction cs with
 | nil=>rfl
 | cons a r ih=>show V.int .i64 a :: rows AJ r=_;rw [ih];rfl
theorem fC (m:AQ):rows AJ (Dz m).locs=List.replicate m.procs.length (.int .i64 0):=by
 rw [Mi]
 unfold Dz
 rw [List.map_map,List.eq_replicate_iff]
 exact ⟨by simp,by simp⟩
structure II (τ:St) (m:AQ) (xv:V) (i:Nat):Prop where
 r:τ.get 1=some (.blk [.nilS,.nilS] 35 0 false)
 l:τ.get 2=some (.blk (rows AJ (Dz m).locs) 3 0 false)
 s:τ.get 3=some (.blk [.ref 2 0 0 m.procs.length (some m.procs.length),xv] 35 0 false)
 n:4≤τ.n
 v: ∃ b,Lst τ 3 1 xv i (rows AJ ((m.vars.take i).map (·.init))) b∧4≤b
theorem fB {call:SS.Call} {k:Nat} (m:AQ) (hm:Ao m) (hk:m.vars.length<k) (τ:St) (hI:II τ m .nilS 0) :
 ∃ σ xv,Ak (t23_0 call k) k [.ptr 1 0 0,.ptr 3 0 0,(AA BF).enc m.vars,.int .i64 (m.vars.length:Int),.int .i64 0] τ=some (.exit 0,[.ptr 1 0 0,.ptr 3 0 0],σ)∧II σ m xv m.vars.length:=by
 have hlen:=hm.vars
 obtain ⟨e,vs',σ,q1,q2,q3⟩:=Br (P:=t23_0 call k) (Inv:=fun r v σ=>∃ (i:Nat) (xv:V),r+i=m.vars.length∧v=[.ptr 1 0 0,.ptr 3 0 0,(AA BF).enc m.vars,.int .i64 (m.vars.length:Int),.int .i64 (i:Int)]∧II σ m xv i)
  (Q:=fun y=>y.1=.exit 0∧y.2.1=[.ptr 1 0 0,.ptr 3 0 0]∧∃ xv,II y.2.2 m xv m.vars.length)
  (by
    rintro r v σ ⟨i,xv,hri,rfl,hS⟩
    generalize hw:t23_0 call k [.ptr 1 0 0,.ptr 3 0 0,(AA BF).enc m.vars,.int .i64 (m.vars.length:Int),.int .i64 (i:Int)] σ=w
    unfold t23_0 at hw
    by_cases hi:i<m.vars.length
    ·have hi':=eq_true (show (i:Int)<(m.vars.length:Int) by omega)
     obtain ⟨b,hL,hb4⟩:=hS.v
     have hn:=hS.n
     obtain ⟨b1,hL1,hb1⟩:=EI 5 hL
     have far: ∀ c,c<σ.n→((σ.new (.blk [.str [],.int .i64 0,.int .i64 0,.int .i64 0] 62 0 false)).put σ.n (.blk [.str m.vars[i].name,.int .i64 m.vars[i].low,.int .i64 m.vars[i].high,.int .i64 m.vars[i].init] 62 0 false)).get c=σ.get c:=fun c hc=>by rw [St.zAG,if_neg (by omega),St.zAE,if_neg (by omega)]
     have hL2:=hL1.of (σ':=(σ.new (.blk [.str [],.int .i64 0,.int .i64 0,.int .i64 0] 62 0 false)).put σ.n (.blk [.str m.vars[i].name,.int .i64 m.vars[i].low,.int .i64 m.vars[i].high,.int .i64 m.vars[i].init] 62 0 false)) (fun hc=>far _ hc) (by rw [Au,AZ];omega)
     obtain ⟨x',b',σ',ha,hL',hn',hfr,hb',hbn'⟩:=DV (new:=[.int .i64 m.vars[i].init]) hL2 (by omega) rfl (by decide)
     rw [Au,AZ] at hn' hfr hb'
     have g: ∀ c,c<4→σ'.get c=σ.get c:=fun c hc=>by rw [hfr c (by omega) (by omega),far c (by omega)]
     have g3:σ'.get 3=some (.blk [.ref 2 0 0 m.procs.length (some m.procs.length),xv] 35 0 false):=by rw [g 3 (by omega)];exact hS.s
     have hs3:=hS.s
     have ho:xv.one=true:=hL.one
     have ho':x'.one=true:=hL'.one
     have hrow:rows AJ ((m.vars.take (i+1)).map (·.init))=rows AJ ((m.vars.take i).map (·.init))++[.int .i64 m.vars[i].init]:=by
      rw [List.take_succ_eq_append_getElem hi,List.map_append];exact DL AJ _ _
     simp (disch:=first | exact dD _ | assumption) only [↓reduceIte,↓rK,rO,Nat.reduceAdd,hi',Av FW,hs3,ho,ha,g3] at hw
     refine .inl ⟨r - 1,_,_,by omega,hw.symm,i+1,x',by omega,rfl,?_⟩
     refine ⟨by rw [St.zAG,if_neg (by omega),g 1 (by omega)];exact hS.r,by rw [St.zAG,if_neg (by omega),g 2 (by omega)];exact hS.l,by rw [St.zAG,if_pos rfl],by rw [Au];omega,b',?_,by omega⟩
     rw [hrow]
     exact hL'.of (fun _=>by rw [St.zAG,if_neg (by omega)]) (Nat.le_refl _)
    ·have he:i=m.vars.length:=by omega
     subst he
     have hi':=eq_false (show ¬(m.vars.length:Int)<(m.vars.length:Int) by omega)
     simp (disch:=first | exact dD _ | assumption) only [↓reduceIte,↓rK,rO,hi'] at hw
     exact .inr ⟨_,_,σ,hw.symm,(by intro h;cases h),rfl,rfl,xv,hS⟩)
  m.vars.length k [.ptr 1 0 0,.ptr 3 0 0,(AA BF).enc m.vars,.int .i64 (m.vars.length:Int),.int .i64 0] τ hk ⟨0,.nilS,by omega,rfl,hI⟩
 obtain ⟨q3,q4,xv,q5⟩:=q3
 simp only at q3 q4 q5
 subst q3 q4
 exact ⟨σ,xv,q1,q5⟩
theorem fD {call:SS.Call} {k:Nat} (h1: ∀ (m:AQ) τ,Ao m→call 36 [AU.enc m] τ=some (.bool m.right,τ)) (m:AQ) (hm:Ao m) (hk:m.vars.length<k) :
 ∃ v σ,t23 call k [AU.enc m] .empty=some (v,σ)∧Bj env σ v (Ay.enc (if m.right then Dz m else ⟨[],[]⟩)):=by
 have hl1:=hm.procs;have hl2:=hm.vars
 have h1':=fun τ=>h1 m τ hm
 generalize hw:t23 call k [AU.enc m] .empty=w
 unfold t23 at hw
 have hst: ∀ (b:Nat) (σ:St) (x y a c:V),a.one=true→c.one=true→σ.get b=some (.blk [x,y] 35 0 false)→storeAt env 35 (.ptr b 0 0) (.agg [a,c]) σ=some (σ.put b (.blk [a,c] 35 0 false)):=fun b σ x y a c ha hc hg=>Et Mx hg rfl rfl (by simp [V.cells,BM,ha,hc])
 cases hr:m.right with
 | false =>
  rw [hr] at h1'
  have hs0:=hst 1 ((St.empty.new (.blk (V.cellsF (AU.enc m)) 30 0 false)).new (.blk [.nilS,.nilS] 35 0 false)) .nilS .nilS .nilS .nilS rfl rfl (by simp (disch:=decide) [St.zAE,AZ,BG])
  simp only [EC] at hs0
  simp (disch:=first | exact dD _ | assumption) only [↓reduceIte,↓rK,rO,AL,Nat.reduceAdd,Nat.reduceEqDiff,h1',hs0] at hw
  exact ⟨_,_,hw.symm,.inr ⟨(by intro h;cases h),rfl⟩⟩
 | true =>
  rw [hr] at h1'
  have hmk:=fun (σ:St) (K:V→St→Option (AEx×List V×St))=>nN m.procs.length hl1 σ K
  have h0:II ((((((St.empty.new (.blk (V.cellsF (AU.enc m)) 30 0 false)).new (.blk [.nilS,.nilS] 35 0 false)).new (.blk (List.replicate m.procs.length (.int .i64 0)) 3 0 false)).new (.blk [.nilS,.nilS] 35 0 false)).put 3 (.blk [.ref 2 0 0 m.procs.length (some m.procs.length),.nilS] 35 0 false))) m .nilS 0 :=
   ⟨by simp (disch:=decide) [St.zAE,St.zAG,AZ,BG],by rw [fC];simp (disch:=decide) [St.zAE,St.zAG,AZ,BG],by simp (disch:=decide) [St.zAG],by rw [Au,AZ,AZ,AZ,AZ,BG];omega,4,DI _ _ _ _,by omega⟩
  have hs0:=hst 3 ((((St.empty.new (.blk (V.cellsF (AU.enc m)) 30 0 false)).new (.blk [.nilS,.nilS] 35 0 false)).new (.blk (List.replicate m.procs.length (.int .i64 0)) 3 0 false)).new (.blk [.nilS,.nilS] 35 0 false)) .nilS .nilS (.ref 2 0 0 m.procs.length (some m.procs.length)) .nilS rfl rfl (by simp (disch:=decide) [St.zAE,AZ,BG])
  obtain ⟨σ,xv,g1,g2⟩:=fB (call:=call) (k:=k) m hm hk _ h0
  simp only [EC] at hs0 g1
  obtain ⟨b,hL,hb4⟩:=g2.v
  have hr2:=g2.r;have hs2:=g2.s
  have hs1:=hst 1 σ .nilS .nilS (.ref 2 0 0 m.procs.length (some m.procs.length)) xv rfl hL.one g2.r
  unfold t23_1 at hw
  simp (disch:=first | exact dD _ | assumption) only [↓reduceIte,↓rK,rO,AL,Nat.reduceAdd,Nat.reduceEqDiff,h1',hmk,hs0,g1,hs2,hs1] at hw
  refine ⟨_,_,hw.symm,.inr ⟨?_,?_⟩⟩
  ·rw [E4,BI,BI]
   have:(V.ref 2 0 0 m.procs.length (some m.procs.length)).kind=2:=rfl
   omega
  ·have hn:=g2.n
   show (match [V.ref 2 0 0 m.procs.length (some m.procs.length),xv].mapM (frz env _ (62+1)) with | some ys=>some (V.agg ys) | none=>none)=_
   rw [List.mapM_cons,List.mapM_cons,List.mapM_nil,bY (cs:=(Dz m).locs) (by rw [St.zAG,if_neg (by omega)];exact g2.l) (by simp [Dz]) (by rw [Au];omega) (by omega),
    FM (xs:=m.vars.map (·.init)) (by omega) (by rw [List.length_map];rw [List.take_length] at hL;exact hL.of (fun _=>by rw [St.zAG,if_neg (by omega)]) (Nat.le_refl _))]
   rfl
def Cl {α:Type} (ty:TypeId) (t:Ty α) (l:List α) (σ:St) (v:V) (σ':St):Prop :=
 (l=[]∧v=.emp∧σ'=σ)∨(l≠[]∧v=.ref σ.n 0 0 l.length none∧σ'=σ.new (.blk (rows t l) ty 0 false))
theorem Rp (σ:St):Cb env 33 0 [] σ=some (.lst [] true,σ):=by
 obtain ⟨i,h1,h2,h3⟩:=QV
 unfold Cb
 rw [M6]
 simp only [h1,Q0,Sd]
 have a1:Nat.beq i.size 0=false:=by rw [h2];rfl
 have a4:Nat.beq (V.int .i64 0).cells.length i.size=true:=by rw [h2];rfl
 have a5:env.wlit 33=false:=by kernel_rfl
 rw [a1,a4,Nat.zero_mul]
 simp [Cq,EW,Dh,a5,Nat.blt]
theorem Yc (l:List Int) (hl:l.length<1000000) (hne:l≠[]) (σ:St):Co env .append [33,33] [.lst [] true,(AA AJ).enc l] σ=some (.ref σ.n 0 0 l.length none,σ.new (.blk (rows AJ l) 3 0 false)):=by
 obtain ⟨i,h1,h2,h3⟩:=QV
 obtain ⟨a,r,rfl⟩: ∃ a r,l=a :: r:=by cases l with | nil=>exact absurd rfl hne | cons a r=>exact ⟨a,r,rfl⟩
 have e1:Co env .append [33,33] [.lst [] true,(AA AJ).enc (a :: r)] σ=GV env 33 false (.lst [] true) (.lst ((a :: r).map AJ.enc) false) σ:=by
  show (match env.P.underlying 33 with
   | some (TypeDesc.int _)=>GV env 33 true (.lst [] true) (.lst ((a :: r).map AJ.enc) false) σ
   | some _=>GV env 33 false (.lst [] true) (.lst ((a :: r).map AJ.enc) false) σ
   | none=>none)=_
  rw [M6]
 rw [e1]
 unfold GV
 rw [M6]
 have e2:C6 (.lst [] true)=some 0:=rfl
 have e3:Gd false (.lst ((a :: r).map AJ.enc) false)=some (r.length+1):=by show some (((a :: r).map AJ.enc).length)=_;simp
 simp only [h1,e2,e3,Q0]
 have a1:Nat.blt 0 i.size=true:=by rw [h2];rfl
 have a2:Nat.ble (0+(r.length+1)) 4294967296=true:=Nat.ble_eq_true_of_le (by simp at hl;omega)
 have a3:Nat.ble i.bytes 16384=true:=by rw [h3];rfl
 have a4:Nat.beq (V.int .i64 0).cells.length i.size=true:=by rw [h2];rfl
 have a5:Nat.beq (r.length+1) 0=false:=rfl
 rw [a1,a2,a3,a4,a5]
 have e4:Gj false (V.int .i64 0).cells σ i.size (r.length+1) (.lst ((a :: r).map AJ.enc) false)=some (rows AJ (a :: r)):=by
  show DC σ i.size (r.length+1) (.lst ((a :: r).map AJ.enc) false)=_
  have b1:Nat.ble (r.length+1) ((a :: r).map AJ.enc).length=true:=Nat.ble_eq_true_of_le (by simp)
  have b2:(((((a :: r).map AJ.enc).take (r.length+1)).map V.cells).flatten)=rows AJ (a :: r):=by
   rw [List.take_of_length_le (by simp),List.map_map,←List.flatMap_def];rfl
  have b3:Nat.beq (rows AJ (a :: r)).length ((r.length+1)*i.size)=true:=by rw [h2,Iy (sz:=1) (fun _=>rfl),List.length_cons];exact Nat.beq_refl _
  show (if Nat.ble (r.length+1) ((a :: r).map AJ.enc).length=true then (if Nat.beq ((((a :: r).map AJ.enc).take (r.length+1)).map V.cells).flatten.length ((r.length+1)*i.size)=true then some ((((a :: r).map AJ.enc).take (r.length+1)).map V.cells).flatten else none) else none)=_
  rw [b1,b2,b3];rfl
 rw [e4]
 have e5:DC σ i.size 0 (.lst [] true)=some []:=by
  unfold DC
  simp
 show (if (!(true&&true&&true&&true))=true then none else (if false=true then some (V.lst [] true,σ) else EA 3 i.size 0 (0+(r.length+1)) (rows AJ (a :: r)) (.lst [] true) σ))=_
 unfold EA
 simp [e5]
theorem ZW {call:SS.Call} {k:Nat} (l:List Int) (hl:l.length<1000000) (hne:l≠[]) (σ:St):t46 call k [(AA AJ).enc l] σ=some (.ref σ.n 0 0 l.length none,σ.new (.blk (rows AJ l) 3 0 false)):=by
 have e0:Cn env BinOp.eql 33 (Operand.tmp 3) (Operand.const (Value.slice none 0 0)) ((AA AJ).enc l) V.nilS σ=some (.bool false):=by
  obtain ⟨a,r,rfl⟩: ∃ a r,l=a :: r:=by cases l with | nil=>exact absurd rfl hne | cons a r=>exact ⟨a,r,rfl⟩
  rfl
 unfold t46
 simp only [Ej,e0,EL,LJ,J8,Rp,LM,Yc l hl hne]
 simp (disch:=first | exact dD _ | assumption) only [↓reduceIte,rO,AL]
theorem ZX {call:SS.Call} {k:Nat} (σ:St):t46 call k [.nilS] σ=some (.nilS,σ):=by
 have e0:Cn env BinOp.eql 33 (Operand.tmp 3) (Operand.const (Value.slice none 0 0)) .nilS V.nilS σ=some (.bool true):=rfl
 unfold t46
 simp only [Ej,e0,EL,LJ,J8]
 simp (disch:=first | exact dD _ | assumption) only [↓reduceIte,rO,AL]
theorem ZY {call:SS.Call} {k:Nat} (σ:St):t46 call k [.lst [] false] σ=some (.lst [] true,σ):=by
 have e0:Cn env BinOp.eql 33 (Operand.tmp 3) (Operand.const (Value.slice none 0 0)) (.lst [] false) V.nilS σ=some (.bool false):=rfl
 have e1:Co env .append [33,33] [.lst [] true,.lst [] false] σ=some (.lst [] true,σ):=by kernel_rfl
 unfold t46
 simp only [Ej,e0,EL,LJ,J8,Rp,LM,e1]
 simp (disch:=first | exact dD _ | assumption) only [↓reduceIte,rO,AL]
def Own (σ:St) (v:V) (l:List Int) (b:Nat):Prop:=(l=[]∧v=.emp)∨(v=.ref b 0 0 l.length none∧σ.get b=some (.blk (rows AJ l) 3 0 false)∧b<σ.n)
theorem Own.one {σ:St} {v:V} {l:List Int} {b:Nat} (h:Own σ v l b):v.one=true:=by rcases h with ⟨_,rfl⟩ | ⟨rfl,_⟩<;>rfl
theorem Own.of {σ σ':St} {v:V} {l:List Int} {b:Nat} (h:Own σ v l b) (hg:b<σ.n→σ'.get b=σ.get b) (hn:σ.n≤σ'.n):Own σ' v l b:=by
 rcases h with h | ⟨h1,h2,h3⟩
 ·exact .inl h
 ·exact .inr ⟨h1,by rw [hg h3];exact h2,by omega⟩
theorem Own.frz {σ:St} {v:V} {l:List Int} {b:Nat} (h:Own σ v l b) {d:Nat} (hd:1≤d):SS.frz env σ (d+1) v=some ((AA AJ).enc l):=by
 rcases h with ⟨rfl,rfl⟩ | ⟨rfl,h2,h3⟩
 ·rfl
 ·exact FM hd (.inr ⟨0,rfl,h2,by rw [Iy (sz:=1) (fun _=>rfl)],h3⟩)
theorem Uv {σ:St} {v1 v2:V} {l1 l2:List Int} {b1 b2:Nat} (h1:Own σ v1 l1 b1) (h2:Own σ v2 l2 b2) {d:Nat} (hd:2≤d):SS.frz env σ (d+1) (.agg [v1,v2])=some (Ay.enc ⟨l1,l2⟩):=by
 obtain ⟨d,rfl⟩: ∃ q,d=q+1:=⟨d - 1,by omega⟩
 show (match [v1,v2].mapM (SS.frz env σ (d+1)) with | some ys=>some (V.agg ys) | none=>none)=_
 rw [List.mapM_cons,List.mapM_cons,List.mapM_nil,h1.frz (by omega),h2.frz (by omega)]
 rfl
theorem SV {l:List Int} {σ σ':St} {v:V} (h:Cl 3 AJ l σ v σ'):Own σ' v l σ.n∧σ.n≤σ'.n∧(∀ c,c<σ.n→σ'.get c=σ.get c):=by
 rcases h with ⟨rfl,rfl,rfl⟩ | ⟨_,rfl,rfl⟩
 ·exact ⟨.inl ⟨rfl,rfl⟩,Nat.le_refl _,fun _ _=>rfl⟩
 ·exact ⟨.inr ⟨rfl,by rw [St.zAE,if_pos rfl],by rw [AZ];omega⟩,by rw [AZ];omega,fun c hc=>by rw [St.zAE,if_neg (by omega)]⟩
theorem aS (b:Nat):fieldAt env 35 (.ptr b 0 0) 0=some (.ptr b 0 0):=by kernel_rfl
theorem aT (b:Nat):fieldAt env 35 (.ptr b 0 0) 1=some (.ptr b 0 1):=by kernel_rfl
theorem I1 (b:Nat) (σ:St) (x y a c:V) (ha:a.one=true) (hc:c.one=true) (hg:σ.get b=some (.blk [x,y] 35 0 false)):storeAt env 35 (.ptr b 0 0) (.agg [a,c]) σ=some (σ.put b (.blk [a,c] 35 0 false)):=Et Mx hg rfl rfl (by simp [V.cells,BM,ha,hc])
theorem dB {R:Type} (v:V) (K:Option R):gd (V.beq v v) K=K:=by rw [V.beq_refl];rfl
theorem Ze {call:SS.Call} {k:Nat} (hcl: ∀ (l:List Int) τ,l.length<1000000→∃ v τ',call 46 [(AA AJ).enc l] τ=some (v,τ')∧Cl 3 AJ l τ v τ') (s:BL) (hs:CJ s) (σ:St) :
 ∃ v1 v2 σ' b1 b2,t25 call k [Ay.enc s] σ=some (.agg [v1,v2],σ')∧σ.n≤σ'.n∧(∀ c,c<σ.n→σ'.get c=σ.get c)∧Own σ' v1 s.locs b1∧Own σ' v2 s.vals b2∧σ.n≤b1∧σ.n≤b2∧(s.locs≠[]→b1≠b2):=by
 obtain ⟨σ0,hσ0⟩: ∃ σ0,σ0=(σ.new (.blk [(AA AJ).enc s.locs,(AA AJ).enc s.vals] 35 0 false)).new (.blk [.nilS,.nilS] 35 0 false):=⟨_,rfl⟩
 have n0:σ0.n=σ.n+2:=by rw [hσ0,AZ,AZ]
 have z0:σ0.get σ.n=some (.blk [(AA AJ).enc s.locs,(AA AJ).enc s.vals] 35 0 false):=by rw [hσ0,St.zAE,AZ,if_neg (by omega),St.zAE,if_pos rfl]
 have z1:σ0.get (σ.n+1)=some (.blk [.nilS,.nilS] 35 0 false):=by rw [hσ0,St.zAE,AZ,if_pos rfl]
 have zz: ∀ c,c<σ.n→σ0.get c=σ.get c:=fun c hc=>by rw [hσ0,St.zAE,AZ,if_neg (by omega),St.zAE,if_neg (by omega)]
 obtain ⟨v1,σ1,e1,c1⟩:=hcl s.locs σ0 hs.1
 obtain ⟨o1,m1,k1⟩:=SV c1
 obtain ⟨v2,σ2,e2,c2⟩:=hcl s.vals σ1 hs.2
 obtain ⟨o2,m2,k2⟩:=SV c2
 have y0:σ1.get σ.n=some (.blk [(AA AJ).enc s.locs,(AA AJ).enc s.vals] 35 0 false):=by rw [k1 _ (by omega)];exact z0
 have y1:σ2.get (σ.n+1)=some (.blk [.nilS,.nilS] 35 0 false):=by rw [k2 _ (by omega),k1 _ (by omega)];exact z1
 have hst:=I1 (σ.n+1) σ2 .nilS .nilS v1 v2 o1.one o2.one y1
 generalize hw:t25 call k [Ay.enc s] σ=w
 unfold t25 at hw
 have p1:=o1.one;have p2:=o2.one
 simp only [Ej,Gr,AZ,KK,←hσ0,aS,aT,EL] at hw
 simp (disch:=first | exact dD _ | assumption) only [↓reduceIte,↓rK,rO,AL,Nat.reduceAdd,z0,e1,y0,dB,e2,↓BB,BB,hst] at hw
 refine ⟨v1,v2,_,σ0.n,σ1.n,hw.symm,by rw [Au];omega,fun c hc=>by rw [St.zAG,if_neg (by omega),k2 c (by omega),k1 c (by omega),zz c hc],?_,?_,by omega,by omega,fun hne=>?_⟩
 ·exact (o1.of (fun hc=>k2 _ hc) m2).of (fun _=>by rw [St.zAG,if_neg (by omega)]) (Nat.le_refl _)
 ·exact o2.of (fun _=>by rw [St.zAG,if_neg (by omega)]) (Nat.le_refl _)
 ·rcases c1 with ⟨h,_⟩ | ⟨_,_,rfl⟩
  ·exact absurd h hne
  ·rw [AZ];omega
theorem qF {n:Int} (h0:0≤n) (h1:n<5):0≤IntKind.i64.wrap (n.tdiv 4)∧IntKind.i64.wrap (n.tdiv 4)≤1:=by
 have:n=0∨n=1∨n=2∨n=3∨n=4:=by omega
 rcases this with rfl | rfl | rfl | rfl | rfl<;>decide
theorem oO {call:SS.Call} (hp: ∀ (n m:Int) τ,0<m→m<1000000000→call 33 [.int .i64 n,.int .i64 m] τ=some (.int .i64 (CK n m),τ)) {k:Nat} (m:AQ) (l:List Int) (how:Int) (hm:Ao m) (hr: ∀ p∈m.procs,1≤p.locs.length) (hk:m.procs.length<k) (τ:St) {xl xv:V} (hI:SI τ m xl xv [] []) :
 ∃ σ xl' ls,Ak (t15_1 call k) k [(AA AJ).enc l,.int .i64 how,.ptr 0 0 0,.ptr 1 0 0,.ptr 2 0 0,.int .i64 (m.procs.length:Int),.int .i64 0] τ=some (.exit 0,[(AA AJ).enc l,.int .i64 how,.ptr 0 0 0,.ptr 1 0 0,.ptr 2 0 0],σ)∧SI σ m xl' xv ls []∧ls.length=m.procs.length:=by
 have hlen:=hm.procs
 obtain ⟨e,vs',σ,q1,q2,q3⟩:=Br (P:=t15_1 call k) (Inv:=fun r v σ=>∃ (i:Nat) (xl':V) (ls:List Int),r+i=m.procs.length∧v=[(AA AJ).enc l,.int .i64 how,.ptr 0 0 0,.ptr 1 0 0,.ptr 2 0 0,.int .i64 (m.procs.length:Int),.int .i64 (i:Int)]∧SI σ m xl' xv ls []∧ls.length=i)
  (Q:=fun y=>y.1=.exit 0∧y.2.1=[(AA AJ).enc l,.int .i64 how,.ptr 0 0 0,.ptr 1 0 0,.ptr 2 0 0]∧∃ xl' ls,SI y.2.2 m xl' xv ls []∧ls.length=m.procs.length)
  (by
    rintro r v σ ⟨i,xl',ls,hri,rfl,hS,hl⟩
    have hz:=hS.z;have hs:=hS.s
    have hx:xl'.one=true:=by obtain ⟨_,_,q1,_⟩:=hS.ls;exact q1.one
    generalize hw:t15_1 call k [(AA AJ).enc l,.int .i64 how,.ptr 0 0 0,.ptr 1 0 0,.ptr 2 0 0,.int .i64 (m.procs.length:Int),.int .i64 (i:Int)] σ=w
    unfold t15_1 t15_0 at hw
    by_cases hi:i<m.procs.length
    ·have hi':=eq_true (show (i:Int)<(m.procs.length:Int) by omega)
     by_cases hil:i<l.length
     ·have hil':=eq_true (show (i:Int)<(l.length:Int) by omega)
      have h1:=hr _ (List.getElem_mem hi)
      have h2:=(hm.proc _ (List.getElem_mem hi)).2.1
      obtain ⟨u0,u1⟩:=Fz how 5 (by omega)
      have p0:=hp how 5 σ (by omega) (by omega)
      obtain ⟨v0,v1⟩:=qF u0 u1
      have hq:=fun (K:Int→Option (AEx×List V×St))=>Gs (y:=4) (CK how 5) K (by omega)
      generalize IntKind.i64.wrap ((CK how 5).tdiv 4)=qq at *
      have p1:=hp l[i] ((m.procs[i].locs.length:Int)+1 - qq) σ (by omega) (by omega)
      generalize CK l[i] ((m.procs[i].locs.length:Int)+1 - qq)=pk at *
      obtain ⟨x',σ',a1,a2,a3,a4⟩:=hS.loc (by omega) (bK (decide (5<pk)) 5 pk)
      simp (disch:=first | exact dD _ | assumption) only [↓reduceIte,↓rK,rO,Nat.reduceAdd,hz,hs,hi',hil',p0,hq,p1,hx,a1,a2] at hw
      exact .inl ⟨r - 1,_,_,by omega,hw.symm,i+1,x',ls++[bK (decide (5<pk)) 5 pk],by omega,rfl,a4,by simp;omega⟩
     ·have hil':=eq_false (show ¬(i:Int)<(l.length:Int) by omega)
      obtain ⟨x',σ',a1,a2,a3,a4⟩:=hS.loc (by omega) (bK (decide (5<(0:Int))) 5 0)
      simp (disch:=first | exact dD _ | assumption) only [↓reduceIte,↓rK,rO,Nat.reduceAdd,hs,hi',hil',hx,a1,a2] at hw
      exact .inl ⟨r - 1,_,_,by omega,hw.symm,i+1,x',ls++[bK (decide (5<(0:Int))) 5 0],by omega,rfl,a4,by simp;omega⟩
    ·have he:i=m.procs.length:=by omega
     subst he
     have hi':=eq_false (show ¬(m.procs.length:Int)<(m.procs.length:Int) by omega)
     simp (disch:=first | exact dD _ | assumption) only [↓reduceIte,↓rK,rO,hi'] at hw
     exact .inr ⟨_,_,σ,hw.symm,(by intro h;cases h),rfl,rfl,xl',ls,hS,hl⟩)
  m.procs.length k [(AA AJ).enc l,.int .i64 how,.ptr 0 0 0,.ptr 1 0 0,.ptr 2 0 0,.int .i64 (m.procs.length:Int),.int .i64 0] τ hk ⟨0,xl,[],by omega,rfl,hI,rfl⟩
 obtain ⟨q3,q4,xl',ls,q5,q6⟩:=q3
 simp only at q3 q4 q5
 subst q3 q4
 exact ⟨σ,xl',ls,q1,q5,q6⟩
theorem oU {call:SS.Call} (hp: ∀ (n m:Int) τ,0<m→m<1000000000→call 33 [.int .i64 n,.int .i64 m] τ=some (.int .i64 (CK n m),τ)) {k:Nat} (m:AQ) (l:List Int) (how:Int) (hm:Ao m) (hk:m.vars.length<k) (τ:St) {xl xv:V} {ls:List Int} (hI:SI τ m xl xv ls []) :
 ∃ σ xv' vs,Ak (t15_3 call k) k [(AA AJ).enc l,.int .i64 how,.ptr 0 0 0,.ptr 1 0 0,.ptr 2 0 0,.int .i64 (m.vars.length:Int),.int .i64 0] τ=some (.exit 2,[.int .i64 how,.ptr 1 0 0,.ptr 2 0 0],σ)∧SI σ m xl xv' ls vs∧vs.length=m.vars.length:=by
 have hlen:=hm.vars
 obtain ⟨e,vs',σ,q1,q2,q3⟩:=Br (P:=t15_3 call k) (Inv:=fun r v σ=>∃ (i:Nat) (xv':V) (vs:List Int),r+i=m.vars.length∧v=[(AA AJ).enc l,.int .i64 how,.ptr 0 0 0,.ptr 1 0 0,.ptr 2 0 0,.int .i64 (m.vars.length:Int),.int .i64 (i:Int)]∧SI σ m xl xv' ls vs∧vs.length=i)
  (Q:=fun y=>y.1=.exit 2∧y.2.1=[.int .i64 how,.ptr 1 0 0,.ptr 2 0 0]∧∃ xv' vs,SI y.2.2 m xl xv' ls vs∧vs.length=m.vars.length)
  (by
    rintro r v σ ⟨i,xv',vs,hri,rfl,hS,hl⟩
    have hz:=hS.z;have hs:=hS.s
    have hx:xv'.one=true:=by obtain ⟨_,_,_,q1,_⟩:=hS.ls;exact q1.one
    generalize hw:t15_3 call k [(AA AJ).enc l,.int .i64 how,.ptr 0 0 0,.ptr 1 0 0,.ptr 2 0 0,.int .i64 (m.vars.length:Int),.int .i64 (i:Int)] σ=w
    unfold t15_3 t15_2 at hw
    by_cases hi:i<m.vars.length
    ·have hi':=eq_true (show (i:Int)<(m.vars.length:Int) by omega)
     by_cases hil:i<l.length
     ·have hil':=eq_true (show (i:Int)<(l.length:Int) by omega)
      have hq:=fun (K:Int→Option (AEx×List V×St))=>Gs (y:=7) l[i] K (by omega)
      obtain ⟨u0,u1⟩:=Fz (IntKind.i64.wrap (l[i].tdiv 7)) 5 (by omega)
      have p1:=hp (IntKind.i64.wrap (l[i].tdiv 7)) 5 σ (by omega) (by omega)
      generalize CK (IntKind.i64.wrap (l[i].tdiv 7)) 5=pk at *
      obtain ⟨x',σ',a1,a2,a3,a4⟩:=hS.val (by omega) (pk - 1)
      simp (disch:=first | exact dD _ | assumption) only [↓reduceIte,↓rK,rO,Nat.reduceAdd,hz,hs,hi',hil',hq,p1,hx,a1,a2] at hw
      exact .inl ⟨r - 1,_,_,by omega,hw.symm,i+1,x',vs++[pk - 1],by omega,rfl,a4,by simp;omega⟩
     ·have hil':=eq_false (show ¬(i:Int)<(l.length:Int) by omega)
      obtain ⟨x',σ',a1,a2,a3,a4⟩:=hS.val (by omega) m.vars[i].init
      simp (disch:=first | exact dD _ | assumption) only [↓reduceIte,↓rK,rO,Nat.reduceAdd,hz,hs,hi',hil',hx,a1,a2] at hw
      exact .inl ⟨r - 1,_,_,by omega,hw.symm,i+1,x',vs++[m.vars[i].init],by omega,rfl,a4,by simp;omega⟩
    ·have he:i=m.vars.length:=by omega
     subst he
     have hi':=eq_false (show ¬(m.vars.length:Int)<(m.vars.length:Int) by omega)
     simp (disch:=first | exact dD _ | assumption) only [↓reduceIte,↓rK,rO,hi'] at hw
     exact .inr ⟨_,_,σ,hw.symm,(by intro h;cases h),rfl,rfl,xv',vs,hS,hl⟩)
  m.vars.length k [(AA AJ).enc l,.int .i64 how,.ptr 0 0 0,.ptr 1 0 0,.ptr 2 0 0,.int .i64 (m.vars.length:Int),.int .i64 0] τ hk ⟨0,xv,[],by omega,rfl,hI,rfl⟩
 obtain ⟨q3,q4,xv',vs,q5,q6⟩:=q3
 simp only at q3 q4 q5
 subst q3 q4
 exact ⟨σ,xv',vs,q1,q5,q6⟩
theorem oN {call:SS.Call} {k:Nat} {m:AQ} {how:Int} {σ:St} {xl xv:V} {ls vs:List Int} (hS:SI σ m xl xv ls vs) (hl:vs.length<1000000) :
 ∃ v σ' vs',t15_5 call k [.int .i64 how,.ptr 1 0 0,.ptr 2 0 0] σ=some (.ret,[v],σ')∧v.kind≠0∧frz env σ' 64 v=some (Ay.enc ⟨ls,vs'⟩)∧vs'.length≤vs.length+1:=by
 have key: ∀ {σ:St} {xv:V} {vs:List Int},SI σ m xl xv ls vs→∃ v σ',t15_4 call k [.ptr 1 0 0,.ptr 2 0 0] σ=some (.ret,[v],σ')∧v.kind≠0∧frz env σ' 64 v=some (Ay.enc ⟨ls,vs⟩):=by
  intro σ xv vs hS
  have hs:=hS.s
  obtain ⟨bl,bv,e1,e2,d1,d2,d3⟩:=hS.ls
  have hst:=I1 1 σ .nilS .nilS xl xv e1.one e2.one hS.r
  generalize hw:t15_4 call k [.ptr 1 0 0,.ptr 2 0 0] σ=w
  unfold t15_4 at hw
  simp (disch:=first | exact dD _ | assumption) only [↓reduceIte,↓rK,rO,Nat.reduceAdd,hs,hst] at hw
  refine ⟨_,_,hw.symm,?_,?_⟩
  ·have:=Ik e1
   rw [E4,BI];omega
  ·have o: ∀ {ty sz v n cs b},Lst σ ty sz v n cs b→3≤b→Lst (σ.put 1 (.blk [xl,xv] 35 0 false)) ty sz v n cs b:=fun h hb=>h.of (fun _=>by rw [St.zAG,if_neg (by omega)]) (Nat.le_refl _)
   show (match [xl,xv].mapM (frz env _ (62+1)) with | some ys=>some (V.agg ys) | none=>none)=_
   rw [List.mapM_cons,List.mapM_cons,List.mapM_nil,FM (by omega) (o e1 d1),FM (by omega) (o e2 d2)]
   rfl
 have hs:=hS.s
 have hx:xv.one=true:=by obtain ⟨_,_,_,q1,_⟩:=hS.ls;exact q1.one
 generalize hw:t15_5 call k [.int .i64 how,.ptr 1 0 0,.ptr 2 0 0] σ=w
 unfold t15_5 at hw
 have hrem:=fun (K:Int→Option (AEx×List V×St))=>Qw (x:=how) (y:=9) (by omega) K
 by_cases h8:how.tmod 9=8
 ·have h8':=eq_true h8
  obtain ⟨x',σ',a1,a2,a3,a4⟩:=hS.val hl how
  obtain ⟨v,σ2,e1,e2,e3⟩:=key a4
  simp (disch:=first | exact dD _ | assumption) only [↓reduceIte,↓rK,rO,Nat.reduceAdd,hrem,h8',hs,↓BB,BB,hx,a1,a2,e1] at hw
  exact ⟨v,σ2,vs++[how],hw.symm,e2,e3,by simp⟩
 ·have h8':=eq_false h8
  obtain ⟨v,σ2,e1,e2,e3⟩:=key hS
  simp (disch:=first | exact dD _ | assumption) only [↓reduceIte,↓rK,rO,hrem,h8',e1] at hw
  exact ⟨v,σ2,vs,hw.symm,e2,e3,by omega⟩
theorem oQ {call:SS.Call} (hp: ∀ (n m:Int) τ,0<m→m<1000000000→call 33 [.int .i64 n,.int .i64 m] τ=some (.int .i64 (CK n m),τ)) {k:Nat} (m:AQ) (l:List Int) (how:Int) (hm:Ao m) (hr: ∀ p∈m.procs,1≤p.locs.length) (hk:m.procs.length<k) (hk2:m.vars.length<k) (hv:m.vars.length<900000) :
 ∃ v σ s,t15 call k [AU.enc m,(AA AJ).enc l,.int .i64 how] .empty=some (v,σ)∧v.kind≠0∧frz env σ 64 v=some (Ay.enc s)∧CJ s:=by
 have h0:SI (((St.empty.new (.blk (V.cellsF (AU.enc m)) 30 0 false)).new (.blk [.nilS,.nilS] 35 0 false)).new (.blk [.nilS,.nilS] 35 0 false)) m .nilS .nilS [] [] :=
  ⟨by simp (disch:=decide) [St.zAE,AZ,BG],by simp (disch:=decide) [St.zAE,AZ,BG],by simp (disch:=decide) [St.zAE,AZ,BG],by rw [AZ,AZ,AZ,BG];omega,3,4,DI _ _ _ _,DI _ _ _ _,by omega,by omega,by omega⟩
 obtain ⟨σ1,xl,ls,g1,g2,g3⟩:=oO hp (k:=k) m l how hm hr hk _ h0
 obtain ⟨σ2,xv,vs,f1,f2,f3⟩:=oU hp (k:=k) m l how hm hk2 _ g2
 obtain ⟨v,σ3,vs',e1,e2,e3,e4⟩:=oN (call:=call) (k:=k) (how:=how) f2 (by omega)
 have hz:=g2.z
 generalize hw:t15 call k [AU.enc m,(AA AJ).enc l,.int .i64 how] .empty=w
 unfold t15 t15_6 at hw
 simp only [EC] at g1 hz
 simp (disch:=first | exact dD _ | assumption) only [↓reduceIte,↓rK,rO,AL,Nat.reduceAdd,Nat.reduceEqDiff,g1,hz,f1,e1] at hw
 refine ⟨_,_,⟨ls,vs'⟩,hw.symm,e2,e3,?_,?_⟩
 ·show ls.length<1000000
  have:=hm.procs;omega
 ·show vs'.length<1000000
  omega
theorem Ot (c:UInt8): ∀ (s:B) (i:Nat),(Di [c] s i=-1∧cut c s=[s])∨∃ n:Nat,Di [c] s i=((i+n:Nat):Int)∧n<s.length∧cut c s=s.take n :: cut c (s.drop (n+1))
 | [],i=>.inl ⟨rfl,rfl⟩
 | b :: r,i=>by
  have e:Di [c] (b :: r) i=bif Nat.beq c.toNat b.toNat then Int.ofNat i else Di [c] r (i+1):=by
   show (bif (bif Nat.beq c.toNat b.toNat then true else false) then Int.ofNat i else Di [c] r (Nat.add i 1))=_
   cases Nat.beq c.toNat b.toNat<;>rfl
  by_cases h:b=c
  ·subst h
   right
   refine ⟨0,by rw [e,Nat.beq_refl];rfl,by simp,?_⟩
   rw [IW,if_pos rfl];rfl
  ·have hb:Nat.beq c.toNat b.toNat=false:=by
    cases hq:Nat.beq c.toNat b.toNat with
    | false=>rfl
    | true=>exact absurd (UInt8.toNat_inj.1 (Nat.eq_of_beq_eq_true hq)).symm h
   rw [e,hb,IW,if_neg h]
   rcases Ot c r (i+1) with ⟨h1,h2⟩ | ⟨n,h1,h2,h3⟩
   ·left
    refine ⟨h1,?_⟩
    rw [h2]
   ·right
    refine ⟨n+1,?_,by simp;omega,?_⟩
    ·show Di [c] r (i+1)=_
     rw [h1];omega
    ·rw [h3];rfl
theorem Sa (c:UInt8): ∀ s:B,Dx (by8 c) s+1=(cut c s).length
 | []=>rfl
 | b :: r=>by
  have ih:=Sa c r
  have e:Dx (by8 c) (b :: r)=if ((b.toNat:Int)==by8 c)=true then 1+Dx (by8 c) r else Dx (by8 c) r:=rfl
  rw [e,IW]
  by_cases h:b=c
  ·subst h
   rw [if_pos (by unfold by8;simp),if_pos rfl,List.length_cons];omega
  ·have hb:((b.toNat:Int)==by8 c)=false:=by
    unfold by8
    rw [beq_eq_false_iff_ne]
    intro hq
    exact h (UInt8.toNat_inj.1 (by omega))
   rw [hb,if_neg (by decide),if_neg h,ih]
   cases hc:cut c r with
   | nil=>exact absurd hc (JN c r)
   | cons x t=>rfl
theorem WL:env.P.underlying 37=some (.slice 9):=by kernel_rfl
theorem xD:Cm env.P 9=some (.str []):=by kernel_rfl
theorem V3: ∃ i,env.P.info? 9=some i∧i.size=1∧i.bytes=16:=⟨_,rfl,by kernel_rfl,by kernel_rfl⟩
theorem nO {R:Type} (n:Nat) (hn:n<4000000) (σ:St) (K:V→St→Option R):pK (Dk env 37 (.int .i64 (n:Int)) (.int .i64 (n:Int)) σ) K=K (.ref σ.n 0 0 n (some n)) (σ.new (.blk (List.replicate n (V.str [])) 9 0 false)):=by
 obtain ⟨i,h1,h2,h3⟩:=V3
 have e:Dk env 37 (.int .i64 (n:Int)) (.int .i64 (n:Int)) σ=some (.ref σ.n 0 0 n (some n),σ.new (.blk (List.replicate n (V.str [])) 9 0 false)):=by
  have e0:Dk env 37 (.int .i64 (n:Int)) (.int .i64 (n:Int)) σ=(match env.P.info? 9,Cm env.P 9 with
   | some i,some z=>if (Nat.ble n n&&Nat.ble (i.bytes*n) 140737488355328&&Nat.ble n 4294967296&&Nat.beq z.cells.length i.size&&Nat.blt 0 i.size)=true then some (.ref σ.n 0 0 n (some n),σ.new (.blk (Cq n z.cells) 9 0 false)) else none
   | _,_=>none):=by
   unfold Dk
   rw [WL];rfl
  rw [e0,h1,xD]
  have a1:Nat.ble n n=true:=Nat.ble_eq_true_of_le (Nat.le_refl _)
  have a2:Nat.ble (i.bytes*n) 140737488355328=true:=Nat.ble_eq_true_of_le (by rw [h3];omega)
  have a3:Nat.ble n 4294967296=true:=Nat.ble_eq_true_of_le (by omega)
  have a4:Nat.beq (V.str []).cells.length i.size=true:=by rw [h2];rfl
  have a5:Nat.blt 0 i.size=true:=by rw [h2];rfl
  simp only [a1,a2,a3,a4,a5,Bool.and_self,if_true]
  have:Cq n (V.str []).cells=List.replicate n (V.str []):=by
   unfold Cq
   show (List.replicate n [V.str []]).flatten=_
   simp [List.flatten_replicate_singleton]
  rw [this]
 rw [e];rfl
theorem sN {n:Nat} (hn:0<n) (b:Nat) (σ:St):sliceAt env 37 (.ref b 0 0 n (some n)) none (some (.int .i64 (n:Int))) none σ=some (.ref b 0 0 n (some n)):=by
 obtain ⟨i,h1,h2,h3⟩:=V3
 have hb: ∀ m,CF m (some (.int .i64 (n:Int)))=some n:=fun _=>rfl
 have hb2: ∀ m,CF m none=some m:=fun _=>rfl
 unfold sliceAt
 simp only [WL,h1,hb,hb2]
 have a1:Nat.ble 0 n=true:=Nat.ble_eq_true_of_le (Nat.zero_le _)
 have a2:Nat.ble n n=true:=Nat.ble_eq_true_of_le (Nat.le_refl _)
 have a3:Nat.beq (n - 0) 0=false:=by rw [Fw];exact decide_eq_false (by omega)
 simp [a1,a2]
 omega
theorem eY {call:SS.Call} {k:Nat} (h: ∀ (s t:B) τ,s.length<4000000→call 118 [.str s,.str t] τ=some (.int .i64 (Di t s 0),τ)) (s t:B) (hs:s.length<4000000) (τ:St):t92 call k [.str s,.str t] τ=some (.int .i64 (Di t s 0),τ):=by
 unfold t92
 simp (disch:=first | exact dD _ | assumption) only [↓rK,rO,AL,h]
theorem Zg {call:SS.Call} {k:Nat} (h: ∀ (s:B) (c:UInt8) τ,call 117 [.str s,.int .u8 (by8 c)] τ=some (.int .i64 (Dx (by8 c) s:Int),τ)) (s:B) (c:UInt8) (τ:St):t91 call k [.str s,.str [c]] τ=some (.int .i64 (Dx (by8 c) s:Int),τ):=by
 unfold t91
 have e0:=eq_false (show ¬(((0+1:Nat):Int))=0 by omega)
 have e1:=eq_true (show (((0+1:Nat):Int))=1 by omega)
 simp (disch:=first | exact dD _ | assumption) only [↓reduceIte,↓rK,rO,AL,h,e0,e1]
structure SpI (τ:St) (n i:Nat) (ws:List B):Prop where
 g:τ.get 0=some (.blk (rows AC ws++List.replicate (n - i) (V.str [])) 9 0 false)
 l:ws.length=i
 n:0<τ.n
theorem K5 (l:List B):(rows AC l).length=l.length:=by rw [Iy (sz:=1) (fun _=>rfl),Nat.mul_one]
theorem SpI.put {τ:St} {n i j:Nat} {ws:List B} (h:SpI τ n i ws) (hi:i<n) (w:B) (hj:j=i):SpI (τ.put 0 (.blk ((rows AC ws++List.replicate (n - i) (V.str [])).set j (.str w)) 9 0 false)) n (i+1) (ws++[w]):=by
 obtain ⟨g,l,hn⟩:=h
 subst hj
 refine ⟨?_,by simp [l],by rw [Au];exact hn⟩
 rw [St.zAG,if_pos rfl]
 have e:n - j=(n - (j+1))+1:=by omega
 rw [e,List.replicate_succ,List.set_append_right _ _ (by rw [K5];omega),K5,l,Nat.sub_self,List.set_cons_zero,DL]
 simp;rfl
theorem sV {σ:St} {n j:Nat} {ws:List B} {r:B} (h:SpI σ n (n - 1) ws) (hn:0<n) (hj:j=n - 1):Bj env (σ.put 0 (.blk ((rows AC ws++List.replicate (n - (n - 1)) (V.str [])).set j (.str r)) 9 0 false)) (.ref 0 0 0 n (some n)) ((AA AC).enc (ws++[r])):=by
 have hP:=h.put (by omega) r hj
 rw [show n - 1+1=n by omega] at hP
 have hg2:=hP.g
 rw [Nat.sub_self,List.replicate_zero,List.append_nil] at hg2
 have hl:=hP.l
 have hL:Lst (σ.put 0 (.blk ((rows AC ws++List.replicate (n - (n - 1)) (V.str [])).set j (.str r)) 9 0 false)) 9 1 (.ref 0 0 0 n none) (ws++[r]).length (rows AC (ws++[r])) 0 :=
  .inr ⟨0,by rw [hl],hg2,by rw [K5,Nat.mul_one],hP.n⟩
 rcases QU hL with ⟨h,_⟩ | ⟨_,h⟩
 ·cases h
 ·exact .inr ⟨(by intro h;cases h),h⟩
set_option maxHeartbeats 4000000 in
theorem sW {call:SS.Call} {k:Nat} (h: ∀ (s t:B) τ,s.length<4000000→call 92 [.str s,.str t] τ=some (.int .i64 (Di t s 0),τ)) (s:B) (c:UInt8) (hs:s.length<3000000) (n:Nat) (hn:(cut c s).length=n) (hk:n<k) (τ:St) (h0:SpI τ n 0 []) :
 ∃ σ r ws,Ak (t67_0 call k) k [.str s,.str [c],.int .i64 0,.int .i64 ((n:Int) - 1),.ref 0 0 0 n (some n),.int .i64 0] τ=some (.exit 0,[.str r,.ref 0 0 0 n (some n),.int .i64 ((n:Int) - 1)],σ)∧SpI σ n (n - 1) ws∧cut c s=ws++[r]:=by
 have hn1:0<n:=by
  have:=JN c s
  rw [←hn];exact List.length_pos_iff.2 this
 have hle:=Gz c s
 obtain ⟨e,vs',σ,q1,q2,q3⟩:=Br (P:=t67_0 call k) (Inv:=fun q v σ=>∃ (i:Nat) (r:B) (ws:List B),q+i=n∧i<n∧v=[.str r,.str [c],.int .i64 0,.int .i64 ((n:Int) - 1),.ref 0 0 0 n (some n),.int .i64 (i:Int)]∧SpI σ n i ws∧cut c s=ws++cut c r∧r.length<3000000)
  (Q:=fun y=>y.1=.exit 0∧∃ r ws,y.2.1=[.str r,.ref 0 0 0 n (some n),.int .i64 ((n:Int) - 1)]∧SpI y.2.2 n (n - 1) ws∧cut c s=ws++[r])
  (by
    rintro q v σ ⟨i,r,ws,hqi,hin,rfl,hS,hc,hr⟩
    have hg:=hS.g
    have hcl:(cut c r).length=n - i:=by
     have:=congrArg List.length hc
     rw [hn,List.length_append,hS.l] at this;omega
    have hx:=fun τ=>h r [c] τ (by omega)
    generalize hw:t67_0 call k [.str r,.str [c],.int .i64 0,.int .i64 ((n:Int) - 1),.ref 0 0 0 n (some n),.int .i64 (i:Int)] σ=w
    unfold t67_0 at hw
    by_cases hi:i<n - 1
    ·have hi':=eq_true (show (i:Int)<(n:Int) - 1 by omega)
     rcases Ot c r 0 with ⟨f1,f2⟩ | ⟨m,f1,f2,f3⟩
     ·rw [f2] at hcl
      simp at hcl;omega
     ·rw [Nat.zero_add] at f1
      rw [f1] at hx
      have hm':=eq_false (show ¬(m:Int)<0 by omega)
      have hst:=fun (K:St→Option (AEx×List V×St))=>Qx (sz:=1) (off:=0) (n:=i) (b:=0) (ver:=0) (o:=0) (len:=n) (cap:=some n) (v:=.str (r.take m)) (by omega) hg (by rw [List.length_append,K5,hS.l,List.length_replicate];omega) K
      have e1:(m:Int)+0=((m:Nat):Int):=by omega
      have e2:(m:Int)+((0+1:Nat):Int)=((m+1:Nat):Int):=by omega
      have e3:m - 0=m:=rfl
      simp (disch:=first | exact dD _ | assumption) only [↓reduceIte,↓rK,rO,hi',hx,hm',e1,e3,hst,e2] at hw
      refine .inl ⟨q - 1,_,_,by omega,hw.symm,i+1,r.drop (m+1),ws++[r.take m],by omega,by omega,rfl,hS.put hin _ (by omega),?_,by rw [List.length_drop];omega⟩
      rw [hc,f3];simp
    ·have he:i=n - 1:=by omega
     have hi':=eq_false (show ¬(i:Int)<(n:Int) - 1 by omega)
     simp (disch:=first | exact dD _ | assumption) only [↓reduceIte,↓rK,rO,hi'] at hw
     have hone:cut c r=[r]:=by
      rcases Ot c r 0 with ⟨f1,f2⟩ | ⟨m,f1,f2,f3⟩
      ·exact f2
      ·rw [f3,List.length_cons] at hcl
       have:=List.length_pos_iff.2 (JN c (r.drop (m+1)))
       omega
     refine .inr ⟨_,_,σ,hw.symm,(by intro h;cases h),rfl,r,ws,?_,by rw [←he];exact hS,by rw [hc,hone]⟩
     rw [show (i:Int)=(n:Int) - 1 by omega])
  n k [.str s,.str [c],.int .i64 0,.int .i64 ((n:Int) - 1),.ref 0 0 0 n (some n),.int .i64 0] τ hk ⟨0,s,[],by omega,hn1,rfl,h0,rfl,hs⟩
 obtain ⟨q3,r,ws,q4,q5,q6⟩:=q3
 simp only at q3 q4 q5
 subst q3 q4
 exact ⟨σ,r,ws,q1,q5,q6⟩
theorem dC {call:SS.Call} {k:Nat} (h: ∀ (s t:B) τ,s.length<4000000→call 92 [.str s,.str t] τ=some (.int .i64 (Di t s 0),τ)) (h2: ∀ (s:B) (c:UInt8) τ,call 91 [.str s,.str [c]] τ=some (.int .i64 (Dx (by8 c) s:Int),τ)) (s:B) (c:UInt8) (hs:s.length<3000000) (hk:s.length+2<k) :
 ∃ v σ,t67 call k [.str s,.str [c],.int .i64 0,.int .i64 (-1)] .empty=some (v,σ)∧Bj env σ v ((AA AC).enc (cut c s)):=by
 have hle:=Gz c s
 have hct:=Sa c s
 obtain ⟨n,hn⟩: ∃ n,(cut c s).length=n:=⟨_,rfl⟩
 have hn1:0<n:=by
  have:=JN c s
  rw [←hn];exact List.length_pos_iff.2 this
 have h2':=fun τ=>h2 s c τ
 have h0:SpI (St.empty.new (.blk (List.replicate n (V.str [])) 9 0 false)) n 0 []:=⟨by simp (disch:=decide) [St.zAE,BG,rows],rfl,by rw [AZ];omega⟩
 obtain ⟨σ,r,ws,g1,g2,g3⟩:=sW h s c hs n hn (k:=k) (by omega) _ h0
 have hg:=g2.g
 have hst:=fun (K:St→Option (AEx×List V×St))=>Qx (sz:=1) (off:=0) (n:=n - 1) (b:=0) (ver:=0) (o:=0) (len:=n) (cap:=some n) (v:=.str r) (by omega) hg (by rw [List.length_append,K5,g2.l,List.length_replicate];omega) K
 have hmk:=fun (τ:St) (K:V→St→Option (AEx×List V×St))=>nO n (by omega) τ K
 have e1:(Dx (by8 c) s:Int)+1=(n:Int):=by omega
 have e2:=eq_false (show ¬((s.length:Nat):Int)+1<(n:Int) by omega)
 have e3:(n:Int) - 1=((n - 1:Nat):Int):=by omega
 have e4:((n - 1:Nat):Int)+1=(n:Int):=by omega
 have e5:=eq_false (show ¬(-1:Int)=0 by omega)
 have e6:=eq_true (show (-1:Int)<0 by omega)
 have e7:=eq_false (show ¬([c]:B)=[] by simp)
 rw [e3] at g1
 have hsl:=fun τ=>sN hn1 0 τ
 generalize hw:t67 call k [.str s,.str [c],.int .i64 0,.int .i64 (-1)] .empty=w
 unfold t67 t67_2 t67_1 at hw
 simp (disch:=first | exact dD _ | assumption) only [↓reduceIte,↓rK,rO,AL,e5,e6,e7,h2',e1,e2,FJ,hmk,e3,g1,↓BB,BB,hst,e4,hsl] at hw
 rw [g3]
 exact ⟨_,_,hw.symm,sV g2 hn1 (by omega)⟩
theorem sZ {call:SS.Call} {k:Nat} (h: ∀ (s:B) (c:UInt8) τ,s.length<1900000→call 67 [.str s,.str [c],.int .i64 0,.int .i64 (-1)] τ=some ((AA AC).enc (cut c s),τ)) (s:B) (c:UInt8) (hs:s.length<1900000) (τ:St):t42 call k [.str s,.str [c]] τ=some ((AA AC).enc (cut c s),τ):=by
 have h':=fun τ=>h s c τ hs
 rw [show (-1:Int)=Int.negSucc 0 from rfl] at h'
 unfold t42
 simp (disch:=first | exact dD _ | assumption) only [↓rK,rO,AL,h']
theorem wY {R:Type} {l:List B} {n:Nat} {σ:St} (hn:n<l.length) (K:V→Option R):Ab 1 (.lst (l.map V.str) false) (n:Int) 0 σ K=K (.str l[n]) :=
 W9 (x:=.str l[n]) (by rw [List.getElem?_map,List.getElem?_eq_getElem hn];rfl) rfl rfl rfl K
theorem wX {R:Type} (l:List B) (K:Int→Option R):lnK (.lst (l.map V.str) false) K=K (l.length:Int):=by rw [XC,List.length_map]
def EX (m:AQ) (ws:List B):List Int:=(m.procs.zip ws).map fun p=>find p.2 p.1.locs
theorem eG (m:AQ) (ws:List B) (i:Nat) (h1:i<m.procs.length) (h2:i<ws.length):(EX m ws).take (i+1)=(EX m ws).take i++[find ws[i] m.procs[i].locs]:=by
 have hl:i<(EX m ws).length:=by unfold EX;rw [List.length_map,List.length_zip];omega
 have e:(EX m ws)[i]=find ws[i] m.procs[i].locs:=by simp [EX]
 rw [List.take_succ_eq_append_getElem hl,e]
theorem pF {call:SS.Call} (h: ∀ (l:List B) (s:B) τ,l.length<1000000→call 43 [(AA AC).enc l,.str s] τ=some (.int .i64 (find s l),τ)) {k:Nat} (m:AQ) (t:B) (ws:List B) (hm:Ao m) (hw:m.procs.length≤ws.length) (hk:m.procs.length<k) (τ:St) {xl xv:V} (hI:SI τ m xl xv [] []) :
 ∃ σ xl',Ak (t21_0 call k) k [.str t,.ptr 0 0 0,.ptr 1 0 0,(AA AC).enc ws,.ptr 2 0 0,(AA BP).enc m.procs,.int .i64 (m.procs.length:Int),.int .i64 0] τ=some (.exit 0,[.str t,.ptr 0 0 0,.ptr 1 0 0,(AA AC).enc ws,.ptr 2 0 0],σ)∧SI σ m xl' xv (EX m ws) []:=by
 have hlen:=hm.procs
 have hil:(EX m ws).length=m.procs.length:=by unfold EX;rw [List.length_map,List.length_zip];omega
 obtain ⟨e,vs',σ,q1,q2,q3⟩:=Br (P:=t21_0 call k) (Inv:=fun r v σ=>∃ (i:Nat) (xl':V),r+i=m.procs.length∧v=[.str t,.ptr 0 0 0,.ptr 1 0 0,(AA AC).enc ws,.ptr 2 0 0,(AA BP).enc m.procs,.int .i64 (m.procs.length:Int),.int .i64 (i:Int)]∧SI σ m xl' xv ((EX m ws).take i) [])
  (Q:=fun y=>y.1=.exit 0∧y.2.1=[.str t,.ptr 0 0 0,.ptr 1 0 0,(AA AC).enc ws,.ptr 2 0 0]∧∃ xl',SI y.2.2 m xl' xv (EX m ws) [])
  (by
    rintro r v σ ⟨i,xl',hri,rfl,hS⟩
    generalize hw:t21_0 call k [.str t,.ptr 0 0 0,.ptr 1 0 0,(AA AC).enc ws,.ptr 2 0 0,(AA BP).enc m.procs,.int .i64 (m.procs.length:Int),.int .i64 (i:Int)] σ=w
    unfold t21_0 at hw
    by_cases hi:i<m.procs.length
    ·have hi':=eq_true (show (i:Int)<(m.procs.length:Int) by omega)
     have hiw:i<ws.length:=by omega
     have hn:=hS.n
     have h2:=(hm.proc _ (List.getElem_mem hi)).2.1
     obtain ⟨σ2,hσ2⟩: ∃ σ2,σ2=(σ.new (.blk [.str [],.nilS] 43 0 false)).put σ.n (.blk [.str m.procs[i].name,(AA AC).enc m.procs[i].locs] 43 0 false):=⟨_,rfl⟩
     have far: ∀ c,c<σ.n→σ2.get c=σ.get c:=fun c hc=>by rw [hσ2,St.zAG,if_neg (by omega),St.zAE,if_neg (by omega)]
     have at2:σ2.get σ.n=some (.blk [.str m.procs[i].name,(AA AC).enc m.procs[i].locs] 43 0 false):=by rw [hσ2,St.zAG,if_pos rfl]
     have n2:σ2.n=σ.n+1:=by rw [hσ2,Au,AZ]
     have hS2:SI σ2 m xl' xv ((EX m ws).take i) []:=by
      obtain ⟨bl,bv,e1,e2,d1,d2,d3,d4,d5⟩:=hS.far
      exact ⟨by rw [far 0 (by omega)];exact hS.z,by rw [far 1 (by omega)];exact hS.r,by rw [far 2 (by omega)];exact hS.s,by omega,bl,bv,e1.of (fun hc=>far _ hc) (by omega),e2.of (fun hc=>far _ hc) (by omega),d1,d2,d3⟩
     have p1:=fun τ=>h m.procs[i].locs ws[i] τ h2
     have hz2:=hS2.s
     have hx:xl'.one=true:=by obtain ⟨_,_,q1,_⟩:=hS.ls;exact q1.one
     obtain ⟨x',σ',a1,a2,a3,a4⟩:=hS2.loc (by rw [List.length_take];omega) (find ws[i] m.procs[i].locs)
     have hstp:(storeAt env 43 (.ptr σ.n 0 0) (BP.enc m.procs[i]) (σ.new (.blk [.str [],.nilS] 43 0 false)))=some σ2:=by rw [hσ2];exact Av ER (Nat.beq_refl _) rfl rfl (by simp [OB,BM,Pn,Gg])
     simp (disch:=first | exact dD _ | assumption) only [↓reduceIte,↓rK,rO,Nat.reduceAdd,hi',hstp,hz2,at2,p1,↓BB,BB,hx,a1,a2] at hw
     rw [←eG m ws i hi hiw] at a4
     exact .inl ⟨r - 1,_,_,by omega,hw.symm,i+1,x',by omega,rfl,a4⟩
    ·have he:i=m.procs.length:=by omega
     subst he
     have hi':=eq_false (show ¬(m.procs.length:Int)<(m.procs.length:Int) by omega)
     simp (disch:=first | exact dD _ | assumption) only [↓reduceIte,↓rK,rO,hi'] at hw
     rw [List.take_of_length_le (by omega)] at hS
     exact .inr ⟨_,_,σ,hw.symm,(by intro h;cases h),rfl,rfl,xl',hS⟩)
  m.procs.length k [.str t,.ptr 0 0 0,.ptr 1 0 0,(AA AC).enc ws,.ptr 2 0 0,(AA BP).enc m.procs,.int .i64 (m.procs.length:Int),.int .i64 0] τ hk ⟨0,xl,by omega,rfl,hI⟩
 obtain ⟨q3,q4,xl',q5⟩:=q3
 simp only at q3 q4 q5
 subst q3 q4
 exact ⟨σ,xl',q1,q5⟩
theorem pH {call:SS.Call} {num:B→Int} {Nu:B→Prop} (h: ∀ (s:B) τ,Nu s→∃ e τ',call 44 [.str s] τ=some (.tup [.int .i64 (num s),e],τ')∧e.one=true∧CU τ τ') {k:Nat} (m:AQ) (t:B) (ws:List B) (hws: ∀ w∈ws,Nu w) (hw:ws.length<1000000) (hk:ws.length<k) (τ:St) {xl xv:V} {ls:List Int} (hI:SI τ m xl xv ls []) :
 ∃ σ xv',Ak (t21_1 call k) k [.str t,.ptr 0 0 0,.ptr 1 0 0,.ptr 2 0 0,.lst (ws.map V.str) false,.int .i64 (ws.length:Int),.int .i64 0] τ=some (.exit 2,[.str t,.ptr 0 0 0,.ptr 1 0 0,.ptr 2 0 0],σ)∧SI σ m xl xv' ls (ws.map num):=by
 obtain ⟨e,vs',σ,q1,q2,q3⟩:=Br (P:=t21_1 call k) (Inv:=fun r v σ=>∃ (i:Nat) (xv':V),r+i=ws.length∧v=[.str t,.ptr 0 0 0,.ptr 1 0 0,.ptr 2 0 0,.lst (ws.map V.str) false,.int .i64 (ws.length:Int),.int .i64 (i:Int)]∧SI σ m xl xv' ls ((ws.take i).map num))
  (Q:=fun y=>y.1=.exit 2∧y.2.1=[.str t,.ptr 0 0 0,.ptr 1 0 0,.ptr 2 0 0]∧∃ xv',SI y.2.2 m xl xv' ls (ws.map num))
  (by
    rintro r v σ ⟨i,xv',hri,rfl,hS⟩
    generalize hw:t21_1 call k [.str t,.ptr 0 0 0,.ptr 1 0 0,.ptr 2 0 0,.lst (ws.map V.str) false,.int .i64 (ws.length:Int),.int .i64 (i:Int)] σ=w
    unfold t21_1 at hw
    by_cases hi:i<ws.length
    ·have hi':=eq_true (show (i:Int)<(ws.length:Int) by omega)
     obtain ⟨er,σ2,p1,hex,x2,x1⟩:=h ws[i] σ (hws _ (List.getElem_mem hi))
     have hS:SI σ2 m xl xv' ls ((ws.take i).map num):=by
      have hn:=hS.n
      obtain ⟨bl,bv,e1,e2,d1,d2,d3,d4,d5⟩:=hS.far
      exact ⟨by rw [x1 0 (by omega)];exact hS.z,by rw [x1 1 (by omega)];exact hS.r,by rw [x1 2 (by omega)];exact hS.s,by omega,bl,bv,e1.of (fun hc=>x1 _ hc) x2,e2.of (fun hc=>x1 _ hc) x2,d1,d2,d3⟩
     have hs:=hS.s
     have hx:xv'.one=true:=by obtain ⟨_,_,_,q1,_⟩:=hS.ls;exact q1.one
     have hld:=fun (τ:St) (K:V→Option (AEx×List V×St))=>wY (σ:=τ) hi K
     obtain ⟨x',σ',a1,a2,a3,a4⟩:=hS.val (by rw [List.length_map,List.length_take];omega) (num ws[i])
     simp (disch:=first | exact dD _ | assumption) only [↓hld,↓reduceIte,↓rK,rO,Nat.reduceAdd,hi',p1,hs,↓BB,BB,hx,a1,a2] at hw
     have e:(ws.take i).map num++[num ws[i]]=(ws.take (i+1)).map num:=by rw [List.take_succ_eq_append_getElem hi,List.map_append];rfl
     rw [e] at a4
     exact .inl ⟨r - 1,_,_,by omega,hw.symm,i+1,x',by omega,rfl,a4⟩
    ·have he:i=ws.length:=by omega
     subst he
     have hi':=eq_false (show ¬(ws.length:Int)<(ws.length:Int) by omega)
     simp (disch:=first | exact dD _ | assumption) only [↓reduceIte,↓rK,rO,hi'] at hw
     rw [List.take_length] at hS
     exact .inr ⟨_,_,σ,hw.symm,(by intro h;cases h),rfl,rfl,xv',hS⟩)
  ws.length k [.str t,.ptr 0 0 0,.ptr 1 0 0,.ptr 2 0 0,.lst (ws.map V.str) false,.int .i64 (ws.length:Int),.int .i64 0] τ hk ⟨0,xv,by omega,rfl,hI⟩
 obtain ⟨q3,q4,xv',q5⟩:=q3
 simp only at q3 q4 q5
 subst q3 q4
 exact ⟨σ,xv',q1,q5⟩
theorem L5 {τ:St} {a v u:V} (ha:a.kind=0) (h:frz env τ 64 v=some u) (hk:v.kind≠0):Bb env τ [a,v]=some [a,u]:=by
 have e:Bb env τ [a,v]=(match (bif Nat.beq a.kind 0 then some a else frz env τ DP a),Bb env τ [v] with | some x,some xs=>some (x :: xs) | _,_=>none):=rfl
 have e2:Bb env τ [v]=(match (bif Nat.beq v.kind 0 then some v else frz env τ DP v),Bb env τ [] with | some x,some xs=>some (x :: xs) | _,_=>none):=rfl
 have hb:Nat.beq v.kind 0=false:=by rw [Fw];exact decide_eq_false hk
 have h:frz env τ DP v=some u:=h
 rw [e,e2,ha,hb,h];rfl
theorem SI.kind {τ:St} {m:AQ} {xl xv:V} {ls vs:List Int} (h:SI τ m xl xv ls vs):(V.agg [xl,xv]).kind≠0:=by
 obtain ⟨_,_,e1,_⟩:=h.ls
 have:=Ik e1
 rw [E4,BI];omega
structure NW (call:SS.Call) (num:B→Int) (Nu:B→Prop):Prop where
 model: ∀ (m:AQ) τ,Ao m→call 36 [AU.enc m] τ=some (.bool m.right,τ)
 right: ∀ (m:AQ) (v:V) (s:BL) τ,Bb env τ [AU.enc m,v]=some [AU.enc m,Ay.enc s]→Ao m→CJ s→call 12 [AU.enc m,v] τ=some (.bool (m.right&&m.fits s),τ)
 print: ∀ (m:AQ) (v:V) (s:BL) τ,Bb env τ [AU.enc m,v]=some [AU.enc m,Ay.enc s]→Ao m→CJ s→call 11 [AU.enc m,v] τ=some (.str (CQ m s),τ)
 split: ∀ (s:B) (c:UInt8) τ,s.length<1900000→call 42 [.str s,.str [c]] τ=some ((AA AC).enc (cut c s),τ)
 index: ∀ (l:List B) (s:B) τ,l.length<1000000→call 43 [(AA AC).enc l,.str s] τ=some (.int .i64 (find s l),τ)
 atoi: ∀ (s:B) τ,Nu s→∃ e τ',call 44 [.str s] τ=some (.tup [.int .i64 (num s),e],τ')∧e.one=true∧CU τ τ'
theorem pE {call:SS.Call} {num:B→Int} {Nu:B→Prop} (h:NW call num Nu) {k:Nat} {m:AQ} {t:B} {σ:St} {xl xv:V} {s:BL} (hm:Ao m) (hs:CJ s) (hr:m.right=true) (hS:SI σ m xl xv s.locs s.vals) :
 ∃ v b σ',t21_2 call k [.str t,.ptr 0 0 0,.ptr 1 0 0,.ptr 2 0 0] σ=some (.ret,[v,.bool b],σ')∧v.kind≠0∧frz env σ' 63 v=some (Ay.enc (if m.fits s&&decide (CQ m s=t) then s else ⟨[],[]⟩))∧b=(m.fits s&&decide (CQ m s=t)):=by
 have hz:=hS.z;have hr1:=hS.r;have hs2:=hS.s
 have hfz:Bb env σ [AU.enc m,.agg [xl,xv]]=some [AU.enc m,Ay.enc s]:=L5 (AU.zero m) (cB hS (n:=63) (by omega)) hS.kind
 have p1:=h.right m _ s σ hfz hm hs
 have p2:=h.print m _ s σ hfz hm hs
 have hst0:=I1 1 σ .nilS .nilS .nilS .nilS rfl rfl hr1
 have hone:xl.one=true∧xv.one=true:=by obtain ⟨_,_,q1,q2,_⟩:=hS.ls;exact ⟨q1.one,q2.one⟩
 have hst1:=I1 1 σ .nilS .nilS xl xv hone.1 hone.2 hr1
 have e0:V.agg [(AA BF).enc m.vars,(AA BP).enc m.procs,(AA BJ).enc m.trans]=AU.enc m:=rfl
 simp only [EC] at hz
 generalize hw:t21_2 call k [.str t,.ptr 0 0 0,.ptr 1 0 0,.ptr 2 0 0] σ=w
 unfold t21_2 at hw
 rw [hr,Bool.true_and] at p1
 cases hf:m.fits s with
 | false =>
  rw [hf] at p1
  simp (disch:=first | exact dD _ | assumption) only [↓reduceIte,↓rK,rO,Nat.reduceAdd,hz,hs2,e0,p1,hst0] at hw
  exact ⟨_,_,_,hw.symm,by decide,rfl,rfl⟩
 | true =>
  rw [hf] at p1
  by_cases hd:CQ m s=t
  ·have hd':=eq_true hd
   simp (disch:=first | exact dD _ | assumption) only [↓reduceIte,↓rK,rO,Nat.reduceAdd,hz,hs2,e0,p1,p2,hd',hst1] at hw
   refine ⟨_,_,_,hw.symm,hS.kind,?_,by rw [decide_eq_true hd];rfl⟩
   rw [decide_eq_true hd]
   obtain ⟨bl,bv,e1,e2,d1,d2,d3⟩:=hS.ls
   have o: ∀ {ty sz v n cs b},Lst σ ty sz v n cs b→3≤b→Lst (σ.put 1 (.blk [xl,xv] 35 0 false)) ty sz v n cs b:=fun h hb=>h.of (fun _=>by rw [St.zAG,if_neg (by omega)]) (Nat.le_refl _)
   show (match [xl,xv].mapM (frz env _ (61+1)) with | some ys=>some (V.agg ys) | none=>none)=_
   rw [List.mapM_cons,List.mapM_cons,List.mapM_nil,FM (by omega) (o e1 d1),FM (by omega) (o e2 d2)]
   rfl
  ·have hd':=eq_false hd
   simp (disch:=first | exact dD _ | assumption) only [↓reduceIte,↓rK,rO,Nat.reduceAdd,hz,hs2,e0,p1,p2,hd',hst0] at hw
   refine ⟨_,_,_,hw.symm,by decide,?_,by rw [decide_eq_false hd];rfl⟩
   rw [decide_eq_false hd]
   rfl
theorem tL {call:SS.Call} {num:B→Int} {Nu:B→Prop} (h:NW call num Nu) {k:Nat} (m:AQ) (t:B) (hm:Ao m) (ht:t.length<990000) (hnu:m.right=true→(cut 32 t).length=m.procs.length+m.vars.length→∀ w∈(cut 32 t).drop m.procs.length,Nu w) (hk:1000000≤k) :
 ∃ v σ,t21 call k [AU.enc m,.str t] .empty=some (v,σ)∧Bj env σ v ((Dm Ay BA).enc (Iq num m t)):=by
 have l1:=hm.procs;have l2:=hm.vars
 have hle:=Gz 32 t
 have p1:=fun τ=>h.model m τ hm
 have p0:=fun τ=>h.split t 32 τ (by omega)
 have e0:V.agg [(AA BF).enc m.vars,(AA BP).enc m.procs,(AA BJ).enc m.trans]=AU.enc m:=rfl
 have hst0:=I1 1 ((St.empty.new (.blk (V.cellsF (AU.enc m)) 30 0 false)).new (.blk [.nilS,.nilS] 35 0 false)) .nilS .nilS .nilS .nilS rfl rfl (by simp (disch:=decide) [St.zAE,AZ,BG])
 simp only [EC] at hst0
 generalize hw:t21 call k [AU.enc m,.str t] .empty=w
 unfold t21 at hw
 unfold Iq
 cases hr:m.right with
 | false =>
  rw [hr] at p1
  simp (disch:=first | exact dD _ | assumption) only [↓reduceIte,↓rK,rO,AL,Nat.reduceAdd,Nat.reduceEqDiff,p0,e0,p1,hst0] at hw
  exact ⟨_,_,hw.symm,.inr ⟨(by intro h;cases h),rfl⟩⟩
 | true =>
  rw [hr] at p1
  by_cases hl:(cut 32 t).length=m.procs.length+m.vars.length
  ·have hl':=eq_true (show ((cut 32 t).length:Int)=(m.procs.length:Int)+(m.vars.length:Int) by omega)
   have h0:SI (((St.empty.new (.blk (V.cellsF (AU.enc m)) 30 0 false)).new (.blk [.nilS,.nilS] 35 0 false)).new (.blk [.nilS,.nilS] 35 0 false)) m .nilS .nilS [] [] :=
    ⟨by simp (disch:=decide) [St.zAE,AZ,BG],by simp (disch:=decide) [St.zAE,AZ,BG],by simp (disch:=decide) [St.zAE,AZ,BG],by rw [AZ,AZ,AZ,BG];omega,3,4,DI _ _ _ _,DI _ _ _ _,by omega,by omega,by omega⟩
   obtain ⟨σ1,xl,g1,g2⟩:=pF h.index (k:=k) m t (cut 32 t) hm (by omega) (by omega) _ h0
   have hdl:((cut 32 t).drop m.procs.length).length=m.vars.length:=by rw [List.length_drop];omega
   obtain ⟨σ2,xv,f1,f2⟩:=pH h.atoi (k:=k) m t ((cut 32 t).drop m.procs.length) (hnu hr hl) (by omega) (by omega) σ1 g2
   have hsm:CJ (Gh num m t):=by
    refine ⟨?_,?_⟩
    ·show (EX m (cut 32 t)).length<1000000
     unfold EX;rw [List.length_map,List.length_zip];omega
    ·show (((cut 32 t).drop m.procs.length).map num).length<1000000
     rw [List.length_map];omega
   obtain ⟨v,b,σ3,e1,e2,e3,e4⟩:=pE h (k:=k) (t:=t) (s:=Gh num m t) hm hsm hr f2
   have hz:=g2.z
   have hsl:=fun τ=>QL (cut 32 t) (JN 32 t) m.procs.length (by omega) τ
   simp only [EC] at g1 hz
   unfold t21_3 at hw
   simp (disch:=first | exact dD _ | assumption) only [↓reduceIte,↓rK,rO,AL,Nat.reduceAdd,Nat.reduceEqDiff,p0,e0,p1,hl',g1,hz,hsl,wX,f1,e1] at hw
   refine ⟨_,_,hw.symm,.inr ⟨by show max v.kind _≠0;omega,?_⟩⟩
   subst e4
   rw [decide_eq_true hl]
   show (match [v,V.bool _].mapM (frz env σ3 63) with | some ys=>some (V.tup ys) | none=>none)=_
   rw [List.mapM_cons,List.mapM_cons,List.mapM_nil,e3]
   cases (m.fits (Gh num m t)&&decide (CQ m (Gh num m t)=t))<;>rfl
  ·have hl':=eq_false (show ¬((cut 32 t).length:Int)=(m.procs.length:Int)+(m.vars.length:Int) by omega)
   simp (disch:=first | exact dD _ | assumption) only [↓reduceIte,↓rK,rO,AL,Nat.reduceAdd,Nat.reduceEqDiff,p0,e0,p1,hl',hst0] at hw
   rw [decide_eq_false hl]
   exact ⟨_,_,hw.symm,.inr ⟨(by intro h;cases h),rfl⟩⟩
structure Q3 (call:SS.Call) (mk:Raw→AQ) (on:AQ→List Int→Int→BL) (num:B→Int):Prop where
 known: ∀ τ,call 6 [] τ=some (.bool true,τ)
 model: ∀ (x:Raw) τ,call 7 [.agg [.int .i64 x.procs,.int .i64 x.vars,(AA (AA AJ)).enc x.trans]] τ=some (AU.enc (mk x),τ)
 small: ∀ x,Ao (mk x)
 locs: ∀ x,∀ p∈(mk x).procs,1≤p.locs.length
 vars: ∀ x,(mk x).vars.length<900000
 one: ∀ (m:AQ) (l:List Int) (n:Int) τ,Ao m→(∀ p∈m.procs,1≤p.locs.length)→m.vars.length<900000→call 15 [AU.enc m,(AA AJ).enc l,.int .i64 n] τ=some (Ay.enc (on m l n),τ)
 onS: ∀ (m:AQ) (l:List Int) (n:Int),Ao m→(∀ p∈m.procs,1≤p.locs.length)→m.vars.length<900000→CJ (on m l n)
 right: ∀ (m:AQ) (s:BL) τ,Ao m→CJ s→call 12 [AU.enc m,Ay.enc s] τ=some (.bool (m.right&&m.fits s),τ)
 print: ∀ (m:AQ) (s:BL) τ,Ao m→CJ s→call 11 [AU.enc m,Ay.enc s] τ=some (.str (CQ m s),τ)
 parse: ∀ (m:AQ) (s:BL) τ,Ao m→m.right=true→m.fits s=true→call 21 [AU.enc m,.str (CQ m s)] τ=some (.tup [Ay.enc (Iq num m (CQ m s)).1,.bool (Iq num m (CQ m s)).2],τ)
 num: ∀ k,-999≤k→k≤999→num (BX k)=k
 copy: ∀ (s:BL) (σ:St),CJ s→∃ v1 v2 σ' b1 b2,call 25 [Ay.enc s] σ=some (.agg [v1,v2],σ')∧σ.n≤σ'.n∧(∀ c,c<σ.n→σ'.get c=σ.get c)∧Own σ' v1 s.locs b1∧Own σ' v2 s.vals b2∧σ.n≤b1∧σ.n≤b2∧(s.locs≠[]→b1≠b2)
 same: ∀ (a b:BL) τ,CJ a→CJ b→call 18 [Ay.enc a,Ay.enc b] τ=some (.bool (decide (a=b)),τ)
 same1: ∀ (v:V) (a b:BL) τ,v.kind≠0→frz env τ 64 v=some (Ay.enc a)→CJ a→CJ b→call 18 [v,Ay.enc b] τ=some (.bool (decide (a=b)),τ)
 init: ∀ (m:AQ) τ,Ao m→call 23 [AU.enc m] τ=some (Ay.enc (if m.right then Dz m else ⟨[],[]⟩),τ)
theorem tT {m:AQ} {s:BL} (hr:m.right=true) (hf:m.fits s=true):(CQ m s).length<990000:=by
 obtain ⟨f1,f2,f3,f4⟩:=(FL m s).1 hf
 obtain ⟨r1,r2,r3,r4,r5,_⟩:=GG hr
 unfold CQ
 rw [hr,hf]
 have:=kX (Ci m s++s.vals.map BX) 8 (by
  intro a ha
  rcases List.mem_append.1 ha with ha | ha
  ·obtain ⟨i,hi,rfl⟩:=List.getElem_of_mem ha
   have hi1:i<m.procs.length:=by rw [Ge m s f1] at hi;exact hi
   obtain ⟨n,hn,hlt,e,hw⟩:=Pg hr hf i hi1 (by omega)
   rw [List.getElem?_eq_getElem hi] at e
   rw [Option.some.inj e]
   exact Kb hw
  ·obtain ⟨n,hn,rfl⟩:=List.mem_map.1 ha
   obtain ⟨i,hi,rfl⟩:=List.getElem_of_mem hn
   obtain ⟨u0,u1⟩:=f4 i (by omega) hi
   obtain ⟨_,v1,v2,v3,v4⟩:=r1 _ (List.getElem_mem (show i<m.vars.length by omega))
   have:=JP s.vals[i] (by omega) (by omega)
   omega)
 rw [List.length_append,Ge m s f1,List.length_map] at this
 show (Dj [32] (Ci m s++s.vals.map BX)).length<_
 omega
def EH (l:List Int) (i:Nat):List Int:=(l.take i).map (·+ 1)++l.drop i
theorem PE (l:List Int) (i:Nat):(EH l i).length=l.length:=by unfold EH;simp;omega
theorem Tu (l:List Int) (i:Nat) (h:i<l.length):((l.take i).map (·+ 1)).length=i:=by simp;omega
theorem eO (l:List Int) (i:Nat) (h:i<l.length):(EH l i)[i]? = some l[i]:=by
 have e:=Tu l i h
 unfold EH
 rw [List.getElem?_append_right (by omega),e,Nat.sub_self,List.getElem?_drop,Nat.add_zero,List.getElem?_eq_getElem h]
theorem eQ (l:List Int) (i:Nat) (h:i<l.length):(EH l i).set i (l[i]+1)=EH l (i+1):=by
 have e:=Tu l i h
 unfold EH
 rw [List.set_append_right _ _ (by omega),e,Nat.sub_self,List.take_succ_eq_append_getElem h,List.drop_eq_getElem_cons h,List.set_cons_zero,List.map_append,List.append_assoc];rfl
theorem eP (l:List Int) (h:l≠[]):EH l l.length≠l:=by
 cases l with
 | nil=>exact absurd rfl h
 | cons a r =>
  unfold EH
  intro e
  rw [List.take_length] at e
  simp at e
  have:=e.1
  omega
theorem rQ (l:List Int) (i:Nat) (x:Int):(rows AJ l).set i (.int .i64 x)=rows AJ (l.set i x):=by
 rw [Mi,Mi,List.map_set]
set_option maxHeartbeats 4000000 in
theorem Yx {call:SS.Call} {k:Nat} (l:List Int) (hl: ∀ i (h:i<l.length),0≤l[i]∧l[i]<1000) (hlen:l.length<1000000) (C b:Nat) (v2:V) (_:v2.one=true) (τ:St) (hk:l.length<k) (hC:τ.get C=some (.blk [.ref b 0 0 l.length none,v2] 35 0 false)) (hb:τ.get b=some (.blk (rows AJ l) 3 0 false)) (hbC:b≠C) :
 ∃ σ,Ak (t5_0 call k) k [.ptr 1 0 0,.ptr 2 0 0,.ptr 4 0 0,.ptr C 0 0,.int .i64 (l.length:Int),.int .i64 0] τ=some (.exit 0,[.ptr 1 0 0,.ptr 2 0 0,.ptr 4 0 0,.ptr C 0 0],σ)∧(∀ c,c≠b→σ.get c=τ.get c)∧σ.n=τ.n∧σ.get b=some (.blk (rows AJ (EH l l.length)) 3 0 false):=by
 obtain ⟨e,vs',σ,q1,q2,q3⟩:=Br (P:=t5_0 call k) (Inv:=fun r v σ=>∃ i:Nat,r+i=l.length∧v=[.ptr 1 0 0,.ptr 2 0 0,.ptr 4 0 0,.ptr C 0 0,.int .i64 (l.length:Int),.int .i64 (i:Int)]∧(∀ c,c≠b→σ.get c=τ.get c)∧σ.n=τ.n∧σ.get b=some (.blk (rows AJ (EH l i)) 3 0 false))
  (Q:=fun y=>y.1=.exit 0∧y.2.1=[.ptr 1 0 0,.ptr 2 0 0,.ptr 4 0 0,.ptr C 0 0]∧(∀ c,c≠b→y.2.2.get c=τ.get c)∧y.2.2.n=τ.n∧y.2.2.get b=some (.blk (rows AJ (EH l l.length)) 3 0 false))
  (by
    rintro r v σ ⟨i,hri,rfl,ho,hn,hg⟩
    have hC':σ.get C=some (.blk [.ref b 0 0 l.length none,v2] 35 0 false):=by rw [ho C (fun h=>hbC h.symm)];exact hC
    generalize hw:t5_0 call k [.ptr 1 0 0,.ptr 2 0 0,.ptr 4 0 0,.ptr C 0 0,.int .i64 (l.length:Int),.int .i64 (i:Int)] σ=w
    unfold t5_0 at hw
    by_cases hi:i<l.length
    ·have hi':=eq_true (show (i:Int)<(l.length:Int) by omega)
     obtain ⟨u0,u1⟩:=hl i hi
     have hld:=fun (K:V→Option (AEx×List V×St))=>wS (sz:=1) (off:=0) (n:=i) (b:=b) (ver:=0) (o:=0) (len:=l.length) (cap:=none) (v:=.int .i64 l[i]) hi hg (by rw [Mi,List.getElem?_map,show 0+(i*1+0)=i by omega,eO l i hi];rfl) rfl K
     have hst:=fun (K:St→Option (AEx×List V×St))=>Qx (sz:=1) (off:=0) (n:=i) (b:=b) (ver:=0) (o:=0) (len:=l.length) (cap:=none) (v:=.int .i64 (l[i]+1)) hi hg (by rw [Iy (sz:=1) (fun _=>rfl),PE];omega) K
     rw [show 0+(i*1+0)=i by omega,rQ,eQ l i hi] at hst
     simp (disch:=first | exact dD _ | assumption) only [↓reduceIte,↓rK,rO,hi',hC',hld,hst] at hw
     exact .inl ⟨r - 1,_,_,by omega,hw.symm,i+1,by omega,rfl,fun c hc=>by rw [St.zAG,if_neg hc,ho c hc],by rw [Au];exact hn,by rw [St.zAG,if_pos rfl]⟩
    ·have he:i=l.length:=by omega
     subst he
     have hi':=eq_false (show ¬(l.length:Int)<(l.length:Int) by omega)
     simp (disch:=first | exact dD _ | assumption) only [↓reduceIte,↓rK,rO,hi'] at hw
     exact .inr ⟨_,_,σ,hw.symm,(by intro h;cases h),rfl,rfl,ho,hn,hg⟩)
  l.length k [.ptr 1 0 0,.ptr 2 0 0,.ptr 4 0 0,.ptr C 0 0,.int .i64 (l.length:Int),.int .i64 0] τ hk ⟨0,by omega,rfl,fun _ _=>rfl,rfl,by rw [hb];simp [EH]⟩
 obtain ⟨q3,q4,q5,q6,q7⟩:=q3
 simp only at q3 q4 q5 q6 q7
 subst q3 q4
 exact ⟨σ,q1,q5,q6,q7⟩
theorem QN (s:BL) (b:Nat) (σ:St) (hg:σ.get b=some (.blk [.nilS,.nilS] 35 0 false)):storeAt env 35 (.ptr b 0 0) (Ay.enc s) σ=some (σ.put b (.blk [(AA AJ).enc s.locs,(AA AJ).enc s.vals] 35 0 false)):=Et Mx hg rfl rfl (by simp [Ay,V.cells,BM,Gg])
set_option maxHeartbeats 16000000 in
theorem Yv {call:SS.Call} {mk:Raw→AQ} {on:AQ→List Int→Int→BL} {num:B→Int} (h:Q3 call mk on num) {k:Nat} (hk:1000000≤k) (x:Raw) (l o:List Int): ∃ σ,t5 call k [EK.enc x,(AA AJ).enc l,(AA AJ).enc o] .empty=some (.bool true,σ):=by
 have k1:=h.known
 have k2:=fun τ=>h.model x τ
 have hm:=h.small x;have hlo:=h.locs x;have hva:=h.vars x
 generalize mk x=m at *
 have k3:=fun l τ=>h.one m l 4 τ hm hlo hva
 have hs1:=h.onS m l 4 hm hlo hva;have hs2:=h.onS m o 4 hm hlo hva
 have k3l:=k3 l;have k3o:=k3 o
 generalize on m l 4=s at *
 generalize on m o 4=t at *
 have k4:=fun τ=>h.right m s τ hm hs1
 have k5:=fun τ=>h.right m t τ hm hs2
 have hst: ∀ (b:Nat) (σ:St),σ.get b=some (.blk [.nilS,.nilS,.nilS] 30 0 false)→storeAt env 30 (.ptr b 0 0) (AU.enc m) σ=some (σ.put b (.blk [(AA BF).enc m.vars,(AA BP).enc m.procs,(AA BJ).enc m.trans] 30 0 false)):=fun b σ hg=>Et Jw hg rfl rfl (by simp [AU,V.cells,BM,Gg])
 have ht1:=QN s;have ht2:=QN t
 generalize hw:t5 call k [EK.enc x,(AA AJ).enc l,(AA AJ).enc o] .empty=w
 unfold t5 at hw
 cases hr1:(m.right&&m.fits s) with
 | false =>
  rw [hr1] at k4
  simp (disch:=first | omega | (simp (disch:=omega) only [St.zAG,St.zAE,AZ,Au,BG,if_neg,if_true,eq_self];done) | first | exact dD _ | assumption) only [↓reduceIte,↓rK,rO,AL,Nat.reduceAdd,Nat.reduceEqDiff,Kw,k1,k2,hst,k3l,k3o,ht1,ht2,k4] at hw
  exact ⟨_,hw.symm⟩
 | true =>
 rw [hr1] at k4
 cases hr2:(m.right&&m.fits t) with
 | false =>
  rw [hr2] at k5
  simp (disch:=first | omega | (simp (disch:=omega) only [St.zAG,St.zAE,AZ,Au,BG,if_neg,if_true,eq_self];done) | first | exact dD _ | assumption) only [↓reduceIte,↓rK,rO,AL,Nat.reduceAdd,Nat.reduceEqDiff,Kw,k1,k2,hst,k3l,k3o,ht1,ht2,k4,k5] at hw
  exact ⟨_,hw.symm⟩
 | true =>
 rw [hr2] at k5
 rw [Bool.and_eq_true] at hr1 hr2
 obtain ⟨hr,hf1⟩:=hr1
 obtain ⟨_,hf2⟩:=hr2
 have k6:=fun τ=>h.print m s τ hm hs1
 have k7:=fun τ=>h.print m t τ hm hs2
 have k8:=fun τ=>h.parse m s τ hm hr hf1
 rw [Uz h.num hr hf1] at k8
 simp only at k8
 obtain ⟨T,hT⟩: ∃ T,T=((((((((St.empty.new (.blk [.int .i64 x.procs,.int .i64 x.vars,(AA (AA AJ)).enc x.trans] 24 0 false)).new (.blk [.nilS,.nilS,.nilS] 30 0 false)).put 1 (.blk [(AA BF).enc m.vars,(AA BP).enc m.procs,(AA BJ).enc m.trans] 30 0 false)).new (.blk [.nilS,.nilS] 35 0 false)).put 2 (.blk [(AA AJ).enc s.locs,(AA AJ).enc s.vals] 35 0 false)).new (.blk [.nilS,.nilS] 35 0 false)).put 3 (.blk [(AA AJ).enc t.locs,(AA AJ).enc t.vals] 35 0 false)).new (.blk [.nilS,.nilS] 35 0 false)).put 4 (.blk [(AA AJ).enc s.locs,(AA AJ).enc s.vals] 35 0 false):=⟨_,rfl⟩
 have hTn:T.n=5:=by rw [hT];simp only [Au,AZ,BG]
 have hT1:T.get 1=some (.blk [(AA BF).enc m.vars,(AA BP).enc m.procs,(AA BJ).enc m.trans] 30 0 false):=by
  rw [hT];simp (disch:=omega) only [St.zAG,St.zAE,AZ,Au,BG,if_neg,if_true,eq_self]
 have hT2:T.get 2=some (.blk [(AA AJ).enc s.locs,(AA AJ).enc s.vals] 35 0 false):=by
  rw [hT];simp (disch:=omega) only [St.zAG,St.zAE,AZ,Au,BG,if_neg,if_true,eq_self]
 have hT3:T.get 3=some (.blk [(AA AJ).enc t.locs,(AA AJ).enc t.vals] 35 0 false):=by
  rw [hT];simp (disch:=omega) only [St.zAG,St.zAE,AZ,Au,BG,if_neg,if_true,eq_self]
 have hT4:T.get 4=some (.blk [(AA AJ).enc s.locs,(AA AJ).enc s.vals] 35 0 false):=by
  rw [hT];simp (disch:=omega) only [St.zAG,St.zAE,AZ,Au,BG,if_neg,if_true,eq_self]
 simp (disch:=first | omega | (simp (disch:=omega) only [St.zAG,St.zAE,AZ,Au,BG,if_neg,if_true,eq_self];done) | first | exact dD _ | assumption) only [↓reduceIte,↓rK,rO,Nat.reduceAdd,Nat.reduceEqDiff,Kw,k1,k2,hst,k3l,k3o,ht1,ht2,k4,k5,k6,k8] at hw
 simp only [←hT] at hw
 obtain ⟨v1,v2,σ',b1,b2,e1,c1,c2,c3,c4,c5,c6,c7⟩:=h.copy s T hs1
 rw [e1] at hw
 have hCn: ∀ c,c<5→σ'.get c=T.get c:=fun c hc=>c2 c (by omega)
 obtain ⟨C,hC⟩: ∃ C,C=σ'.n:=⟨_,rfl⟩
 obtain ⟨U,hU⟩: ∃ U,U=(σ'.new (.blk [.nilS,.nilS] 35 0 false)).put C (.blk [v1,v2] 35 0 false):=⟨_,rfl⟩
 have hC5:5≤C:=by omega
 have hstU:storeAt env 35 (.ptr C 0 0) (.agg [v1,v2]) (σ'.new (.blk [.nilS,.nilS] 35 0 false))=some U:=by
  rw [hU,hC];exact I1 σ'.n _ .nilS .nilS v1 v2 c3.one c4.one (by rw [St.zAE,if_pos rfl])
 have gU: ∀ c,c<5→U.get c=T.get c:=fun c hc=>by rw [hU,St.zAG,if_neg (by omega),St.zAE,if_neg (by omega),hCn c hc]
 have gUC:U.get C=some (.blk [v1,v2] 35 0 false):=by rw [hU,St.zAG,if_pos rfl]
 have hU1:=(gU 1 (by omega)).trans hT1;have hU2:=(gU 2 (by omega)).trans hT2;have hU3:=(gU 3 (by omega)).trans hT3;have hU4:=(gU 4 (by omega)).trans hT4
 obtain ⟨f1,f2,f3,f4⟩:=(FL m s).1 hf1
 obtain ⟨r1,r2,r3,r4,r5,_⟩:=GG hr
 have hne:s.locs≠[]:=by
  intro e
  rw [e] at f1
  have:([]:List Int).length=0:=rfl
  omega
 rcases c3 with ⟨e,_⟩ | ⟨ev1,g1,g2⟩
 ·exact absurd e hne
 subst ev1
 have o1:Own U (.ref b1 0 0 s.locs.length none) s.locs b1:=.inr ⟨rfl,by rw [hU,St.zAG,if_neg (by omega),St.zAE,if_neg (by omega)];exact g1,by rw [hU,Au,AZ];omega⟩
 have o2:Own U v2 s.vals b2:=c4.of (fun hb=>by rw [hU,St.zAG,if_neg (by omega),St.zAE,if_neg (by omega)]) (by rw [hU,Au,AZ];omega)
 have kk:(V.agg [.ref b1 0 0 s.locs.length none,v2]).kind≠0:=by
  rw [E4,BI]
  have:(V.ref b1 0 0 s.locs.length none).kind=2:=rfl
  omega
 have j1:=fun τ=>h.same s s τ hs1 hs1
 rw [decide_eq_true (rfl:s=s)] at j1
 have j2:=h.same1 _ s s U kk (Uv o1 o2 (d:=63) (by omega)) hs1 hs1
 rw [decide_eq_true (rfl:s=s)] at j2
 have j3:=fun τ=>h.same s t τ hs1 hs2
 have hone:=o2.one
 have dd:decide (CQ m s=CQ m t)=decide (s=t):=decide_eq_decide.2 (qA hr hf1 hf2)
 have hlb: ∀ i (h:i<s.locs.length),0≤s.locs[i]∧s.locs[i]<1000:=fun i hi=>by
  have a:=f3 i (by omega) hi
  have b:=(r2 _ (List.getElem_mem (show i<m.procs.length by omega))).2.2.1
  omega
 have hgb:U.get b1=some (.blk (rows AJ s.locs) 3 0 false):=by rw [hU,St.zAG,if_neg (by omega),St.zAE,if_neg (by omega)];exact g1
 have hls:=hs1.1
 obtain ⟨W,l1,l2,l3,l4⟩:=Yx (call:=call) (k:=k) s.locs hlb hs1.1 C b1 v2 hone U (by omega) gUC hgb (by omega)
 have hW1:=(l2 1 (by omega)).trans hU1;have hW2:=(l2 2 (by omega)).trans hU2;have hW4:=(l2 4 (by omega)).trans hU4;have hWC:=(l2 C (by omega)).trans gUC
 have o3:Own W (.ref b1 0 0 s.locs.length none) (EH s.locs s.locs.length) b1:=.inr ⟨by rw [PE],l4,by rw [l3,hU,Au,AZ];omega⟩
 have o4:Own W v2 s.vals b2:=o2.of (fun hb=>l2 _ (fun e=>c7 hne e.symm)) (by omega)
 have j4:=h.same1 _ ⟨EH s.locs s.locs.length,s.vals⟩ s W kk (Uv o3 o4 (d:=63) (by omega)) ⟨by show (EH s.locs s.locs.length).length<_;rw [PE];exact hs1.1,hs1.2⟩ hs1
 rw [decide_eq_false (fun e=>eP s.locs hne (by have:=congrArg BL.locs e;exact this))] at j4
 have j5:=fun τ=>h.init m τ hm
 rw [hr,if_pos rfl] at j5
 have hsI:CJ (Dz m):=⟨by simp [Dz];exact hm.procs,by simp [Dz];exact hm.vars⟩
 have j6:=fun τ=>h.right m (Dz m) τ hm hsI
 rw [hr,fA hr] at j6
 have eB: ∀ b:Bool,eqB b b=true:=fun b=>by cases b<;>rfl
 simp (disch:=first | exact dD _ | assumption) only [↓reduceIte,↓rK,rO,Nat.reduceAdd,←hC,hstU,hU1,hU2,hU3,hU4,gUC,j1,j2,j3,k6,k7,dd,eB,Qv,l1] at hw
 unfold t5_1 at hw
 simp (disch:=first | exact dD _ | assumption) only [↓reduceIte,↓rK,rO,AL,Nat.reduceAdd,hW1,hW2,hW4,hWC,j1,j4,j5,j6] at hw
 exact ⟨_,hw.symm⟩
def Dn:AQ:=⟨[⟨[120],-5,5,0⟩],[⟨[112],[[97],[98]]⟩],[]⟩
def Ct:BL:=⟨[1],[-3]⟩
theorem Qe:Dn.right=true:=by decide +kernel
theorem Qd:Dn.fits Ct=true:=by decide +kernel
theorem WG:CQ Dn Ct=[98,32,45,51]:=by decide +kernel
theorem Qf:Ao Dn:=by
 refine ⟨by decide,?_,by decide,?_,by decide,?_⟩
 all_goals (intro x hx;simp [Dn] at hx)
 ·subst hx;decide
 ·subst hx;decide
theorem vF (call:SS.Call) (k:Nat): ∃ v σ,t26 call k [] .empty=some (v,σ)∧Bj env σ v (AU.enc Dn):=by
 have b1: ∀ σ,Cb env 26 1 [(0,V.agg [V.str [120],V.int .i64 (-5),V.int .i64 5,V.int .i64 0])] σ=some (.lst [V.agg [V.str [120],V.int .i64 (-5),V.int .i64 5,V.int .i64 0]] true,σ):=fun σ=>by kernel_rfl
 have b2: ∀ σ,Cb env 37 2 [(0,V.str [97]),(1,V.str [98])] σ=some (.lst [V.str [97],V.str [98]] true,σ):=fun σ=>by kernel_rfl
 have b3: ∀ σ,Cb env 27 1 [(0,V.agg [V.str [112],.lst [V.str [97],V.str [98]] true])] σ=some (.lst [V.agg [V.str [112],.lst [V.str [97],V.str [98]] true]] true,σ):=fun σ=>by kernel_rfl
 have hst: ∀ (σ:St) (x y:V),x.one=true→y.one=true→σ.get 0=some (.blk [.nilS,.nilS,.nilS] 30 0 false)→storeAt env 30 (.ptr 0 0 0) (.agg [x,y,.nilS]) σ=some (σ.put 0 (.blk [x,y,.nilS] 30 0 false)):=fun σ x y hx hy hg=>Et Jw hg rfl rfl (by simp [V.cells,BM,hx,hy,Pm])
 have hs:=hst (St.empty.new (.blk [.nilS,.nilS,.nilS] 30 0 false)) (.lst [V.agg [V.str [120],V.int .i64 (-5),V.int .i64 5,V.int .i64 0]] true) (.lst [V.agg [V.str [112],.lst [V.str [97],V.str [98]] true]] true) rfl rfl (by simp (disch:=decide) [St.zAE,BG])
 have em:(Int.negSucc 4:Int)=-5:=rfl
 have e0:(Int.ofNat 0:Int)=0:=rfl
 have e5:(Int.ofNat 5:Int)=5:=rfl
 generalize hw:t26 call k [] .empty=w
 unfold t26 at hw
 simp (disch:=first | exact dD _ | assumption) only [↓reduceIte,↓rK,rO,AL,Nat.reduceAdd,em,b1,b2,b3,hs] at hw
 exact ⟨_,_,hw.symm,.inr ⟨by decide,rfl⟩⟩
structure Q4 (call:SS.Call):Prop where
 two: ∀ τ,call 26 [] τ=some (AU.enc Dn,τ)
 parse: ∀ τ,call 21 [AU.enc Dn,.str (CQ Dn Ct)] τ=some (.tup [Ay.enc Ct,.bool true],τ)
 print: ∀ (v:V) τ,v.kind≠0→frz env τ 64 v=some (Ay.enc Ct)→call 11 [AU.enc Dn,v] τ=some (.str (CQ Dn Ct),τ)
 same: ∀ (v:V) τ,v.kind≠0→frz env τ 64 v=some (Ay.enc Ct)→call 18 [Ay.enc Ct,v] τ=some (.bool true,τ)
 right: ∀ (v:V) τ,v.kind≠0→frz env τ 64 v=some (Ay.enc Ct)→call 12 [AU.enc Dn,v] τ=some (.bool true,τ)
theorem lU {call:SS.Call} (h:Q4 call) (k:Nat): ∃ σ,t6 call k [] .empty=some (.bool true,σ):=by
 have b1: ∀ σ,Cb env 33 1 [(0,V.int .i64 1)] σ=some (.lst [V.int .i64 1] true,σ):=fun σ=>by kernel_rfl
 have b2: ∀ σ,Cb env 33 1 [(0,V.int .i64 (-3))] σ=some (.lst [V.int .i64 (-3)] true,σ):=fun σ=>by kernel_rfl
 have hs:=I1 0 (St.empty.new (.blk [.nilS,.nilS] 35 0 false)) .nilS .nilS (.lst [V.int .i64 1] true) (.lst [V.int .i64 (-3)] true) rfl rfl (by simp (disch:=decide) [St.zAE,BG])
 have hp:=h.parse;have h2:=h.two
 have k1:=fun τ=>h.print (.agg [.lst [V.int .i64 1] true,.lst [V.int .i64 (-3)] true]) τ (by decide) rfl
 have k2:=fun τ=>h.same (.agg [.lst [V.int .i64 1] true,.lst [V.int .i64 (-3)] true]) τ (by decide) rfl
 have k3:=fun τ=>h.right (.agg [.lst [V.int .i64 1] true,.lst [V.int .i64 (-3)] true]) τ (by decide) rfl
 rw [WG] at hp k1
 have ht:=QN Ct
 have hsC:[(AA AJ).enc Ct.locs,(AA AJ).enc Ct.vals]=[.lst [V.int .i64 1] false,.lst [V.int .i64 (-3)] false]:=rfl
 have em:(Int.negSucc 2:Int)=-3:=rfl
 have e1:(Int.ofNat 1:Int)=1:=rfl
 generalize hw:t6 call k [] .empty=w
 unfold t6 at hw
 simp (disch:=first | omega | (simp (disch:=omega) only [St.zAG,St.zAE,AZ,Au,BG,if_neg,if_true,eq_self];done) | first | exact dD _ | assumption) only [↓reduceIte,↓rK,rO,AL,Nat.reduceAdd,Nat.reduceEqDiff,em,b1,b2,hs,h2,hp,ht,k1,k2,k3] at hw
 exact ⟨_,hw.symm⟩
end Go.Proofs.YtglndmmlghpdpaaGreatDoor
namespace Go.Proofs.YtglndmmlghpdpaaGreatDoor
open Go Go.Proofs Go.Shelf Go.RowKit
set_option maxRecDepth 100000
def Jo:Go.Shelf.Ren:={ f:=fun x=>match x with | 244=>68 | 247=>93 | 287=>119 | 321=>144 | 322=>145 | n=>n,t:=fun x=>match x with | 9=>9 | 3=>3 | 75=>80 | 4=>4 | 5=>5 | 167=>134 | 37=>102 | 0=>0 | 85=>135 | 2=>2 | 53=>131 | 175=>168 | 46=>170 | 21=>21 | 80=>106 | n=>n,g:=fun x=>have n:=x;n }
theorem l6:LaysC.n244 Tryz.prog Jo:={ mixed:=Eq.refl true,f244:=Eq.trans Tryz.func68 (congrArg some (Eq.refl (Body.n244 Jo))),f247:=Eq.trans Tryz.func93 (congrArg some (Eq.refl (Body.n247 Jo))),f287:=Eq.trans Tryz.func119 (congrArg some (Eq.refl (Body.n287 Jo))),f321:=Eq.trans Tryz.func144 (congrArg some (Eq.refl (Body.n321 Jo))),f322:=Eq.trans Tryz.func145 (congrArg some (Eq.refl (Body.n322 Jo))),t0:=Tryz.underlying0,a0:=Tryz.isAgg0,z0:=Tryz.sizeOf0,v0:=Tryz.zeroValue0,t2:=Tryz.underlying2,a2:=Tryz.isAgg2,z2:=Tryz.sizeOf2,v2:=Tryz.zeroValue2,t3:=Tryz.underlying3,a3:=Tryz.isAgg3,z3:=Tryz.sizeOf3,v3:=Tryz.zeroValue3,t4:=Tryz.underlying4,a4:=Tryz.isAgg4,z4:=Tryz.sizeOf4,v4:=Tryz.zeroValue4,t5:=Tryz.underlying5,a5:=Tryz.isAgg5,z5:=Tryz.sizeOf5,v5:=Tryz.zeroValue5,t9:=Tryz.underlying9,a9:=Tryz.isAgg9,z9:=Tryz.sizeOf9,v9:=Tryz.zeroValue9,t21:=Tryz.underlying21,a21:=Tryz.isAgg21,z21:=Tryz.sizeOf21,v21:=Tryz.zeroValue21,t37:=Tryz.underlying102,a37:=Tryz.isAgg102,z37:=Tryz.sizeOf102,v37:=Tryz.zeroValue102,t46:=Tryz.underlying170,a46:=Tryz.isAgg170,z46:=Tryz.sizeOf170,v46:=Tryz.zeroValue170,t53:=Tryz.underlying131,a53:=Tryz.isAgg131,z53:=Tryz.sizeOf131,v53:=Tryz.zeroValue131,t75:=Tryz.underlying80,a75:=Tryz.isAgg80,z75:=Tryz.sizeOf80,v75:=Tryz.zeroValue80,t85:=Tryz.underlying135,a85:=Tryz.isAgg135,z85:=Tryz.sizeOf135,v85:=Tryz.zeroValue135,t167:=Tryz.underlying134,a167:=Tryz.isAgg134,z167:=Tryz.sizeOf134,v167:=Tryz.zeroValue134,t175:=Tryz.underlying168,a175:=Tryz.isAgg168,z175:=Tryz.sizeOf168,v175:=Tryz.zeroValue168,t80:=Tryz.underlying106,a80:=Tryz.isAgg106,z80:=Tryz.sizeOf106,v80:=Tryz.zeroValue106,i0:=by kernel_rfl,i2:=by kernel_rfl,i3:=by kernel_rfl,i4:=by kernel_rfl,i5:=by kernel_rfl,i9:=by kernel_rfl,i21:=by kernel_rfl,i37:=by kernel_rfl,i46:=by kernel_rfl,i53:=by kernel_rfl,i75:=by kernel_rfl,i80:=by kernel_rfl,i85:=by kernel_rfl,i167:=by kernel_rfl,i175:=by kernel_rfl,c0:=by kernel_rfl,c2:=by kernel_rfl,c3:=by kernel_rfl,c4:=by kernel_rfl,c5:=by kernel_rfl,c9:=by kernel_rfl,c21:=by kernel_rfl,c37:=by kernel_rfl,c46:=by kernel_rfl,c53:=by kernel_rfl,c75:=by kernel_rfl,c80:=by kernel_rfl,c85:=by kernel_rfl,c167:=by kernel_rfl,c175:=by kernel_rfl }
def Eo (s:SS.B):Int:=match Lib.atoiAll s with
 | .ok v=>v
 | _=>0
theorem lD:SS.Af env 68 (SS.BS SS.AC SS.tV0 (fun s=>s.length<3000000∧∃ v,Lib.atoiAll s=.ok v) (fun s=>⟨.tup [.int .i64 (Eo s),.if0],rfl⟩)):=by
 refine SS.PU (c:=SS.IQ Tryz.f68) Tryz.func68 (by kernel_rfl) (by kernel_rfl) fun ws u hg=>?_
 obtain ⟨x,y,h1,rfl,rfl⟩:=SS.QM hg
 obtain ⟨⟨p1,v,p2⟩,rfl⟩:=SS.Ji h1
 refine ⟨rfl,fun w vs' hgo hv=>?_⟩
 cases hv with
 | cons _ v' _ _ h2 h3 =>
  cases h2
  cases h3
  refine (Any.internal_strconv_Atoi_all l6 ⟨x.toArray⟩ (by have e:(⟨x.toArray⟩:ByteArray).size=x.length:=(by show x.toArray.size=_;simp);omega) w).mono fun e w' he=>?_
  obtain ⟨rfl,hw⟩:=he
  have hx:(⟨x.toArray⟩:ByteArray).data.toList=x:=rfl
  rw [hx,p2]
  refine ⟨_,rfl,?_,?_⟩
  ·have:Eo x=v:=by unfold Eo;rw [p2]
   show SS.VR _ _ (.tup [.int .i64 (Eo x),.if0]) (.tuple #[.int .i64 v,.nilIface])
   rw [this]
   exact .tup _ _ (.cons _ _ _ _ (.int _ _) (.cons _ _ _ _ .if0 .nil))
  ·rcases hw with rfl | ⟨t,rfl⟩
   ·exact Below.refl _ _
   ·exact Lib.bytesWorld_below _ _ _
theorem OX (d:Nat) (h:d<10):(UInt8.ofNat (48+d)).toNat=48+d:=by
 have:=SS.N8 d h
 unfold SS.by8 at this
 omega
theorem VC: ∀ (ds:List Nat) (acc:Nat),(∀ d∈ds,d<10)→(acc+1)*10 ^ ds.length≤1000000000000→Lib.parseUint10 acc (ds.map fun d=>UInt8.ofNat (48+d))=.ok (ds.foldl (fun a d=>10*a+d) acc)
 | [],acc,_,_=>rfl
 | d :: r,acc,h,hb=>by
  have hd:=h d (by simp)
  have e1:(d :: r).length=r.length+1:=rfl
  rw [e1,Nat.pow_succ,Nat.mul_comm (10 ^ r.length) 10,←Nat.mul_assoc] at hb
  have hp:1≤10 ^ r.length:=Nat.pos_of_ne_zero (by simp)
  have hs:(acc+1)*10≤(acc+1)*10*10 ^ r.length:=Nat.le_mul_of_pos_right _ hp
  have ih:=VC r (acc*10+d) (fun x hx=>h x (by simp [hx])) (Nat.le_trans (Nat.mul_le_mul_right _ (by omega)) hb)
  show Lib.parseUint10 acc (UInt8.ofNat (48+d) :: r.map fun d=>UInt8.ofNat (48+d))=_
  unfold Lib.parseUint10
  rw [OX d hd,if_pos (by omega),if_neg (by omega),if_neg (by omega),show 48+d - 48=d by omega,ih,List.foldl_cons,Nat.mul_comm 10 acc]
theorem Rb (n:Nat) (hn:n<1000):Lib.parseMag (SS.Bg n)=.ok n∧∃ c r,SS.Bg n=c :: r∧c.toNat≠43∧c.toNat≠45:=by
 obtain ⟨ds,h1,h2,h3,h4,h5⟩:=SS.MZ n hn
 match ds,h2 with
 | d :: r,_ =>
  have hd:=h1 d (by simp)
  have hb:(0+1)*10 ^ (d :: r).length≤1000000000000:=by
   have:10 ^ (d :: r).length≤10 ^ 3:=Nat.pow_le_pow_right (by omega) h3
   omega
  have hp:=VC (d :: r) 0 h1 hb
  refine ⟨?_,_,_,h4,by rw [OX d hd];omega,by rw [OX d hd];omega⟩
  rw [h4]
  unfold Lib.parseMag
  rw [if_neg (by simp),hp,h5]
theorem Ra (k:Int) (h1: -999≤k) (h2:k≤999):Lib.atoiAll (SS.BX k)=.ok k:=by
 unfold SS.BX
 by_cases h:k<0
 ·rw [if_pos h]
  obtain ⟨e,c,r,e2,_⟩:=Rb (-k).toNat (by omega)
  rw [e2] at e ⊢
  unfold Lib.atoiAll
  simp only [show (45:UInt8).toNat=45 from rfl,or_true,if_true,e,not_true,false_and,if_false,true_and]
  rw [if_neg (by omega)]
  congr 1
  omega
 ·rw [if_neg h]
  obtain ⟨e,c,r,e2,e3,e4⟩:=Rb k.toNat (by omega)
  rw [e2] at e ⊢
  unfold Lib.atoiAll
  simp only [eq_false e3,eq_false e4,or_self,if_false,e,not_false_eq_true,true_and,false_and]
  rw [if_neg (by omega)]
  congr 1
  omega
theorem Ui (k:Int) (h1: -999≤k) (h2:k≤999):Eo (SS.BX k)=k:=by unfold Eo;rw [Ra k h1 h2]
end Go.Proofs.YtglndmmlghpdpaaGreatDoor
namespace Go.Proofs.YtglndmmlghpdpaaGreatDoor
open Go SS
set_option maxRecDepth 100000
noncomputable section
theorem R7 {lm:List (FuncId×Ac)} {lt:List (FuncId×CB)} {f:FuncId} {e:Ext} (h1:AV lm f=none) (h2:pu f=false) (h3:env.extn f=some e) (k:Nat) (vs:List V) (σ:St):AY env pu (AV lm) (AX lt) (k+1) f vs σ=JF e vs σ:=by
 show (match AV lm f with | some g=>_ | none=>_)=_
 rw [h1]
 simp only [h2,h3,Bool.false_eq_true,if_false]
theorem Rt {t:B} (h:t.length=1): ∃ c,t=[c]:=by
 match t,h with
 | [c],_=>exact ⟨c,rfl⟩
def S_40:Ac:=B6 (AA AJ) (AA AJ) BA (fun a b=>a.length<1000000∧b.length<1000000) (fun a b=>decide (a=b))
theorem K_40:Af env 40 S_40:=kc2 (lm:=L_67) (lt:=[]) Ar M_67 Aw iT fun a b h=>by
 have hl:=h.1
 have e:=aP (call:=AY env pu (AV L_67) (AX []) 1) (k:=2000000) a b h.1 h.2 (by omega) .empty
 exact ⟨1,2000000,_,_,e,BZ (t:=BA)⟩
def L_68:LT:=(40,S_40) :: L_67
theorem M_68:MO L_68:=Aq K_40 M_67
def S_18:Ac:=B6 Ay Ay BA (fun a b=>CJ a∧CJ b) (fun a b=>decide (a=b))
theorem K_18:Af env 18 S_18:=kc2 (lm:=L_68) (lt:=[]) Ar M_68 Aw iD fun a b h=>by
 obtain ⟨σ,e⟩:=rX (call:=AY env pu (AV L_68) (AX []) 1) (k:=2000000) (fun a b τ h1 h2=>AP.c2 (aq L_68 40 S_40 rfl) (x:=a) (y:=b) ⟨h1,h2⟩ τ) a b h.1 h.2
 exact ⟨1,2000000,_,σ,e,BZ (t:=BA)⟩
def L_69:LT:=(18,S_18) :: L_68
theorem M_69:MO L_69:=Aq K_18 M_68
def S_23:Ac:=BS AU Ay Ao (fun m=>if m.right then Dz m else ⟨[],[]⟩)
theorem K_23:Af env 23 S_23:=kc1 (lm:=L_69) (lt:=[]) Ar M_69 Aw iF fun m h=>by
 have hl:=h.vars
 obtain ⟨v,σ,e1,e2⟩:=fD (call:=AY env pu (AV L_69) (AX []) 1) (k:=2000000) (fun m τ h=>AP.c1 (aq L_69 36 S_36 rfl) (x:=m) h τ) m h (by omega)
 exact ⟨1,2000000,v,σ,e1,e2⟩
def L_70:LT:=(23,S_23) :: L_69
theorem M_70:MO L_70:=Aq K_23 M_69
def S_92:Ac:=B6 AC AC AJ (fun s _=>s.length<4000000) (fun s t=>Di t s 0)
theorem K_92:Af env 92 S_92:=kc2 (lm:=L_70) (lt:=[]) Ar M_70 Aw kM fun s t h=>by
 have e:=eY (call:=AY env pu (AV L_70) (AX []) 1) (k:=2000000) (fun s t τ h=>by
  rw [R7 (e:=.indexStr 6) (by kernel_rfl) (by kernel_rfl) (by kernel_rfl)]
  show (if Nat.blt s.length 4294967281 then some (V.int .i64 (Di t s 0),τ) else none)=_
  rw [if_pos (by rw [Nat.blt_eq];omega)]) s t h .empty
 exact ⟨1,2000000,_,_,e,BZ (t:=AJ)⟩
def L_71:LT:=(92,S_92) :: L_70
theorem M_71:MO L_71:=Aq K_92 M_70
def S_91:Ac:=B6 AC AC AJ (fun _ t=>t.length=1) (fun s t=>(Dx (by8 (t.headD 0)) s:Int))
theorem K_91:Af env 91 S_91:=kc2 (lm:=L_71) (lt:=[]) Ar M_71 Aw kL fun s t h=>by
 obtain ⟨c,rfl⟩:=Rt h
 have e:=Zg (call:=AY env pu (AV L_71) (AX []) 1) (k:=2000000) (fun s c τ=>by
  rw [R7 (e:=.countStr) (by kernel_rfl) (by kernel_rfl) (by kernel_rfl)]
  show (if Nat.blt c.toNat 256 then some (V.int .i64 (Dx (by8 c) s),τ) else none)=_
  rw [if_pos (by rw [Nat.blt_eq];exact c.toNat_lt)]) s c .empty
 exact ⟨1,2000000,_,_,e,BZ (t:=AJ)⟩
def L_72:LT:=(91,S_91) :: L_71
theorem M_72:MO L_72:=Aq K_91 M_71
def KU:Ac:=fun ws=>match ws with
 | [.str s,.str [c],.int .i64 (.ofNat 0),.int .i64 (.negSucc 0)]=>if s.length<1900000 then some ((AA AC).enc (cut c s)) else none
 | _=>none
theorem lG:Af env 67 KU:=by
 refine Kg (mem:=AV L_72) (txt:=AX []) Ar M_72 Aw jS fun ws u hg=>?_
 unfold KU at hg
 split at hg
 ·rename_i s c
  split at hg
  ·rename_i hs
   cases hg
   obtain ⟨v,σ,e1,e2⟩:=dC (call:=AY env pu (AV L_72) (AX []) 1) (k:=2000000) (fun s t τ h=>AP.c2 (aq L_72 92 S_92 rfl) (x:=s) (y:=t) h τ) (fun s c τ=>AP.c2 (aq L_72 91 S_91 rfl) (x:=s) (y:=[c]) rfl τ) s c (by omega) (by omega)
   exact ⟨1,2000000,v,σ,e1,e2⟩
  ·cases hg
 ·cases hg
def S_67:Ac:=KU
theorem K_67:Af env 67 S_67:=lG
def L_73:LT:=(67,S_67) :: L_72
theorem M_73:MO L_73:=Aq K_67 M_72
def S_42:Ac:=B6 AC AC (AA AC) (fun s t=>s.length<1900000∧t.length=1) (fun s t=>cut (t.headD 0) s)
theorem K_42:Af env 42 S_42:=kc2 (lm:=L_73) (lt:=[]) Ar M_73 Aw iU fun s t h=>by
 obtain ⟨c,rfl⟩:=Rt h.2
 have hA:AP env (AY env pu (AV L_73) (AX []) 1) 67 KU:=aq L_73 _ S_67 rfl
 have e:=sZ (call:=AY env pu (AV L_73) (AX []) 1) (k:=2000000) (fun s c τ h=>by
  have q:KU [.str s,.str [c],.int .i64 0,.int .i64 (-1)]=some ((AA AC).enc (cut c s)):=by
   show (if s.length<1900000 then some ((AA AC).enc (cut c s)) else none)=_
   rw [if_pos h]
  have hz:Bb env τ [.str s,.str [c],.int .i64 0,.int .i64 (-1)]=some [.str s,.str [c],.int .i64 0,.int .i64 (-1)]:=GZ rfl
  exact hA hz q rfl) s c h.1 .empty
 exact ⟨1,2000000,_,_,e,BZ (t:=AA AC)⟩
def L_74:LT:=(42,S_42) :: L_73
theorem M_74:MO L_74:=Aq K_42 M_73
def S_68:Ac:=BS AC tV0 (fun s=>s.length<3000000∧∃ v,Lib.atoiAll s=.ok v) (fun s=>⟨.tup [.int .i64 (Eo s),.if0],rfl⟩)
theorem K_68:Af env 68 S_68:=lD
def L_75:LT:=(68,S_68) :: L_74
theorem M_75:MO L_75:=Aq K_68 M_74
def S_44:Ac:=BS AC tV0 (fun s=>s.length<3000000∧∃ v,Lib.atoiAll s=.ok v) (fun s=>⟨.tup [.int .i64 (Eo s),.if0],rfl⟩)
theorem K_44:Af env 44 S_44:=kc1 (lm:=L_75) (lt:=[]) Ar M_75 Aw iW fun s h=>by
 have q: ∀ τ,AY env pu (AV L_75) (AX []) 1 68 [.str s] τ=some (.tup [.int .i64 (Eo s),.if0],τ):=fun τ=>AP.c1 (aq L_75 68 S_68 rfl) (x:=s) h τ
 have e:t44 (AY env pu (AV L_75) (AX []) 1) 2000000 [.str s] .empty=some (.tup [.int .i64 (Eo s),.if0],.empty):=by
  unfold t44
  simp only [Ej,q,LM,Qz,List.getElem?_cons_zero,List.getElem?_cons_succ,EL]
  rfl
 exact ⟨1,2000000,_,_,e,.inl ⟨rfl,rfl⟩⟩
def L_76:LT:=(44,S_44) :: L_75
theorem M_76:MO L_76:=Aq K_44 M_75
def S_21:Ac:=B6 AU AC (Dm Ay BA) (fun m t=>Ao m∧t.length<990000∧(m.right=true→(cut 32 t).length=m.procs.length+m.vars.length→∀ w∈(cut 32 t).drop m.procs.length,w.length<3000000∧∃ v,Lib.atoiAll w=.ok v)) (fun m t=>Iq Eo m t)
theorem K_21:Af env 21 S_21:=kc2 (lm:=L_76) (lt:=[]) Ar M_76 Aw iE fun m t h=>by
 have hA:NW (AY env pu (AV L_76) (AX []) 1) Eo (fun w=>w.length<3000000∧∃ v,Lib.atoiAll w=.ok v) :=
  ⟨fun m τ h=>AP.c1 (aq L_76 36 S_36 rfl) (x:=m) h τ,fun m v s τ hz h1 h2=>AP.f2 (aq L_76 12 S_12 rfl) (x:=m) (y:=s) ⟨h1,h2⟩ hz (.inr rfl),fun m v s τ hz h1 h2=>AP.f2 (aq L_76 11 S_11 rfl) (x:=m) (y:=s) ⟨h1,h2⟩ hz (.inr rfl),fun s c τ h=>AP.c2 (aq L_76 42 S_42 rfl) (x:=s) (y:=[c]) ⟨h,rfl⟩ τ,fun l s τ h=>AP.c2 (aq L_76 43 S_43 rfl) (x:=l) (y:=s) h τ,fun s τ h=>⟨_,_,AP.c1 (aq L_76 44 S_44 rfl) (x:=s) h τ,rfl,CU.refl τ⟩⟩
 obtain ⟨v,σ,e1,e2⟩:=tL hA (k:=2000000) m t h.1 h.2.1 h.2.2 (by omega)
 exact ⟨1,2000000,v,σ,e1,e2⟩
def L_77:LT:=(21,S_21) :: L_76
theorem M_77:MO L_77:=Aq K_21 M_76
theorem Up: ∃ F:AQ×List Int×Int→BL,∀ x,(Ao x.1∧(∀ p∈x.1.procs,1≤p.locs.length)∧x.1.vars.length<900000)→(∃ v σ,t15 (AY env pu (AV L_77) (AX []) 1) 2000000 [AU.enc x.1,(AA AJ).enc x.2.1,.int .i64 x.2.2] .empty=some (v,σ)∧Bj env σ v (Ay.enc (F x)))∧CJ (F x) :=
 Ey (P:=fun x:AQ×List Int×Int=>Ao x.1∧(∀ p∈x.1.procs,1≤p.locs.length)∧x.1.vars.length<900000) (R:=fun x r=>(∃ v σ,t15 (AY env pu (AV L_77) (AX []) 1) 2000000 [AU.enc x.1,(AA AJ).enc x.2.1,.int .i64 x.2.2] .empty=some (v,σ)∧Bj env σ v (Ay.enc r))∧CJ r) fun x hx=>by
  obtain ⟨m,l,n⟩:=x
  obtain ⟨h1,h2,h3⟩:=hx
  have l1:m.procs.length<1000000:=h1.procs
  obtain ⟨v,σ,s,e1,e2,e3,e4⟩:=oQ (call:=AY env pu (AV L_77) (AX []) 1) (k:=2000000) (fun n q τ h1 h2=>AP.c2 (aq L_77 33 S_33 rfl) (x:=n) (y:=q) ⟨h1,h2⟩ τ) m l n h1 h2 (by omega) (by have:m.vars.length<900000:=h3;omega) h3
  exact ⟨s,⟨v,σ,e1,.inr ⟨e2,e3⟩⟩,e4⟩
def onF:AQ×List Int×Int→BL:=Up.choose
theorem Un: ∀ x,(Ao x.1∧(∀ p∈x.1.procs,1≤p.locs.length)∧x.1.vars.length<900000)→(∃ v σ,t15 (AY env pu (AV L_77) (AX []) 1) 2000000 [AU.enc x.1,(AA AJ).enc x.2.1,.int .i64 x.2.2] .empty=some (v,σ)∧Bj env σ v (Ay.enc (onF x)))∧CJ (onF x):=Up.choose_spec
def S_15:Ac:=Hz AU (AA AJ) AJ Ay (fun m _ _=>Ao m∧(∀ p∈m.procs,1≤p.locs.length)∧m.vars.length<900000) (fun m l n=>onF (m,l,n))
theorem K_15:Af env 15 S_15:=kc3 (lm:=L_77) (lt:=[]) Ar M_77 Aw gZ fun m l n h=>by
 obtain ⟨v,σ,e1,e2⟩:=(Un (m,l,n) h).1
 exact ⟨1,2000000,v,σ,e1,e2⟩
theorem Uk {m:AQ} {s:BL} (hr:m.right=true) (hf:m.fits s=true): ∀ w∈(cut 32 (CQ m s)).drop m.procs.length,w.length<3000000∧∃ v,Lib.atoiAll w=.ok v:=by
 obtain ⟨f1,f2,f3,f4⟩:=(FL m s).1 hf
 rw [Px hr hf,←Ge m s f1,List.drop_left]
 intro w hw
 obtain ⟨n,hn,rfl⟩:=List.mem_map.1 hw
 obtain ⟨i,hi,rfl⟩:=List.getElem_of_mem hn
 obtain ⟨u0,u1⟩:=f4 i (by omega) hi
 obtain ⟨_,v1,v2,v3,v4⟩:=(GG hr).1 _ (List.getElem_mem (show i<m.vars.length by omega))
 have:=JP s.vals[i] (by omega) (by omega)
 exact ⟨by omega,_,Ra _ (by omega) (by omega)⟩
def L_78:LT:=(15,S_15) :: L_77
theorem M_78:MO L_78:=Aq K_15 M_77
def S_26:Ac:=sp0 AU (some Dn)
theorem K_26:Af env 26 S_26:=UG (lm:=L_78) (lt:=[]) Ar M_78 Aw iH fun y hy=>by
 cases hy
 obtain ⟨v,σ,e1,e2⟩:=vF (AY env pu (AV L_78) (AX []) 1) 1
 exact ⟨1,1,v,σ,e1,e2⟩
def L_79:LT:=(26,S_26) :: L_78
theorem M_79:MO L_79:=Aq K_26 M_78
def S_6:Ac:=sp0 BA (some true)
theorem K_6:Af env 6 S_6:=UG (lm:=L_79) (lt:=[]) Ar M_79 Aw jO fun y hy=>by
 cases hy
 have hs:CJ Ct:=⟨by decide,by decide⟩
 have hA:Q4 (AY env pu (AV L_79) (AX []) 1) :=
  ⟨fun τ=>AP.at0 (c:=AU) (F:=some Dn) (aq L_79 _ S_26 rfl) rfl τ,fun τ=>by
   have:=AP.c2 (aq L_79 21 S_21 rfl) (x:=Dn) (y:=CQ Dn Ct) ⟨Qf,by rw [WG];decide,fun _ _=>Uk Qe Qd⟩ τ
   rw [Uz Ui Qe Qd] at this
   exact this,
   fun v τ hk hz=>AP.f2 (aq L_79 11 S_11 rfl) (x:=Dn) (y:=Ct) ⟨Qf,hs⟩ (L5 (AU.zero _) hz hk) (.inr rfl),
   fun v τ hk hz=>by
    have:=AP.f2 (aq L_79 18 S_18 rfl) (x:=Ct) (y:=Ct) ⟨hs,hs⟩ (L5 (Ay.zero _) hz hk) (.inr rfl)
    rw [decide_eq_true rfl] at this
    exact this,
   fun v τ hk hz=>by
    have:=AP.f2 (aq L_79 12 S_12 rfl) (x:=Dn) (y:=Ct) ⟨Qf,hs⟩ (L5 (AU.zero _) hz hk) (.inr rfl)
    rw [Qe,Qd] at this
    exact this⟩
 obtain ⟨σ,e⟩:=lU hA 1
 exact ⟨1,1,_,σ,e,BZ (t:=BA) (x:=true)⟩
def L_80:LT:=(6,S_6) :: L_79
theorem M_80:MO L_80:=Aq K_6 M_79
end
end Go.Proofs.YtglndmmlghpdpaaGreatDoor
namespace SS
open Go
theorem qU {H:Type} {enc:TypeId×Value→H} {a:Assume} {C:Checked} {os:Os} {f:FuncId} {fn:Func} {s:ChangeSpec} {conds:List PathCond} {apart fresh handsOn again:Bool} {X:World→Array Value→Prop}
 (hX: ∀ (w w':World) (args:Array Value),w.heap=w'.heap→X w args→X w' args)
 (own:ownKnob C.prog.godebug=none) (started:os.Started) (noInit:C.prog.inits.idxOf? f=none) (hfn:C.prog.funcs[f]? = some fn)
 (witness: ∃ (w:World) (tape:Tape) (i:Input),w.os=os∧(w.forCall tape i).Shaped C.prog∧i.vars=[]∧Input.okWide C.prog (w.forCall tape i) .any w.heap.size f i ∧
   ((s.pre enc C.prog fn conds apart (w.forCall tape i).memory i.args∧X (w.forCall tape i).memory i.args)∧sizedMet enc C.prog fn (OpenSpec.ofChange s) apart (w.forCall tape i).memory i.args)∧a.holds C.prog (lone (Frame.enter C.prog f i.args .normal) [] (w.forCall tape i)))
 (contract: ∀ (W:World) (base:Nat) (args:Array Value) (ds gs:List (DataW H)) (before:List MemPlace),
   (∀ (j:Nat) t v,fn.params[j]? = some t→args[j]? = some v→Value.okWide C.prog W .any base t v) →
   DataW.Whole enc C.prog fn.params.toList s.vars apart W args.toList ds gs before→X W args→W.ShapedOpen C.prog →
   Calls C.prog f args W fun e W'=>∃ v,e=.returned v∧s.post enc C.prog fn apart fresh handsOn again W args v W') :
 ReturnsInHanded a C os f .any (fun w args=>(s.pre enc C.prog fn conds apart w args∧X w args)∧sizedMet enc C.prog fn (OpenSpec.ofChange s) apart w args) (s.post enc C.prog fn apart fresh handsOn again):=by
 refine returnsInHanded_of_calls own started noInit witness ?_
 intro w tape i _ hsh _ hok hpre _
 obtain ⟨_,_,_,fn',hfn',_,_,_,_,hval⟩:=hok
 obtain rfl:fn'=fn:=Option.some.inj (hfn'.symm.trans hfn)
 obtain ⟨⟨⟨ds,gs,before,hw,_⟩,hx⟩,_⟩:=hpre
 have hw':=DataW.Whole.of_heap (w':=w.forCall tape i) (by rfl) hw
 refine (contract (w.forCall tape i) w.heap.size i.args ds gs before hval hw' (hX _ _ _ (by rfl) hx) hsh).mono fun e W' ⟨v,he,hp⟩=>?_
 subst he
 exact ChangeSpec.post_blind hp
theorem l5 {E:Env} {f:FuncId} {g:Ac} (h:Af E f g) {fn:Func} {c:Code} (hf:E.P.funcs[f]? = some fn) (hb:fn.body=some c) (hn:(fn.name== "runtime.NumGoroutine")=false) {ws us:List V} (hg:g ws=some (.bool true)) {w:World} {args:List Value}
 (hz:Bb E .empty us=some ws) (hgo:GOk E (DB w)) (hv:VRL (fun _=>none) (DB w) us args) :
 Calls E.P f args.toArray w fun | .returned v,w'=>v=.bool true∧w'.os=w.os∧w'.output=w.output∧∀ i,i<w.heap.size→w'.heap[i]? = w.heap[i]? | _,_=>False:=by
 have hn:fn.name≠ "runtime.NumGoroutine" := by simpa using hn
 rcases h hg hz (by rw [show (V.bool true).scal=true from rfl,Bool.or_true]) (tH E.P w .empty) hgo hv with ⟨v',w',hrun,_⟩ | ⟨_,hcall⟩
 ·simp [callFunc,hf,hn,hb] at hrun
 ·refine hcall.mono fun e w' hh=>?_
  cases e with
  | panicked _=>exact hh.elim
  | outgrown=>exact hh.elim
  | returned v =>
   obtain ⟨ρ',M',s,hv⟩:=hh
   cases hv
   exact ⟨rfl,s.os,s.output,fun i hi=>s.frame i hi fun _ _ h=>by cases h⟩
theorem bU {E:Env} {σ:St} {v u:V} (h:frz E σ 64 v=some u) (hd:v.dep≤64):(bif Nat.beq v.kind 0 then some v else frz E σ DP v)=some u:=by
 cases hb:Nat.beq v.kind 0 with
 | false=>exact h
 | true =>
  have:=Tg (E:=E) (σ:=σ) 64 v (Nat.eq_of_beq_eq_true hb) hd
  rw [this] at h
  exact h
end SS
namespace Go.Proofs.YtglndmmlghpdpaaGreatDoor
open Go SS
set_option maxRecDepth 100000
noncomputable section
theorem Ud (x:Raw):(mkF x).right=true∨mkF x=⟨[],[],[]⟩:=(P4 (txF x) trivial).2.2.2
theorem bR {τ:St} {v u b:V} (h:frz env τ 64 v=some u) (hk:v.kind≠0) (hb:b.kind=0):Bb env τ [v,b]=some [u,b]:=by
 have e:Bb env τ [v,b]=(match (bif Nat.beq v.kind 0 then some v else frz env τ DP v),Bb env τ [b] with | some x,some xs=>some (x :: xs) | _,_=>none):=rfl
 have h2:Nat.beq v.kind 0=false:=by rw [Fw];exact decide_eq_false hk
 have h:frz env τ DP v=some u:=h
 rw [e,h2,h,GZ (show V.kind.kinds [b]=0 by rw [BI,hb];rfl)];rfl
def Jy:List (FuncId×CB):=[(25,t25),(46,t46)]
theorem vI:Dv env pu (AX Jy):=D6 iG (D6 iY Aw)
theorem ZV (k:Nat) (l:List Int) (τ:St) (hl:l.length<1000000): ∃ v τ',AY env pu (AV L_80) (AX Jy) (k+1) 46 [(AA AJ).enc l] τ=some (v,τ')∧Cl 3 AJ l τ v τ':=by
 match l with
 | []=>exact ⟨_,_,ZN (t:=t46) (by kernel_rfl) (by kernel_rfl) (by kernel_rfl) rfl k τ (by kernel_rfl) (ZX _) (ZY _) ⟨Nat.ble_eq_true_of_le (Nat.le_refl _),rfl,rfl⟩ ⟨Nat.ble_eq_true_of_le (Nat.le_refl _),rfl,rfl⟩,.inl ⟨rfl,rfl,rfl⟩⟩
 | a :: r =>
  refine ⟨_,_,?_,.inr ⟨by simp,rfl,rfl⟩⟩
  rw [OG (t:=t46) (by kernel_rfl) (by kernel_rfl) (by kernel_rfl) rfl]
  show t46 (AY env pu (AV L_80) (AX Jy) k) k [(AA AJ).enc (a :: r)] τ=_
  exact ZW (a :: r) hl (by simp) τ
theorem Yq:Q3 (AY env pu (AV L_80) (AX Jy) 3) mkF (fun m l n=>onF (m,l,n)) Eo:=by
 have q: ∀ {f g},AV L_80 f=some g→AP env (AY env pu (AV L_80) (AX Jy) 3) f g:=fun h=>Bn h (by omega)
 exact {
  known:=fun τ=>AP.at0 (c:=BA) (F:=some true) (show AP env _ 6 (sp0 BA (some true)) from q rfl) rfl τ
  model:=fun x τ=>AP.c1 (show AP env _ 7 S_7 from q rfl) (x:=x) trivial τ
  small:=fun x=>(P4 (txF x) trivial).2.1
  locs:=fun x p hp=>by
   rcases Ud x with h | h
   ·exact ((GG h).2.1 p hp).2.1
   ·rw [h] at hp;simp at hp
  vars:=fun x=>by
   rcases Ud x with h | h
   ·have:=(GG h).2.2.1;omega
   ·rw [h];show 0<900000;omega
  one:=fun m l n τ h1 h2 h3=>AP.c3 (show AP env _ 15 S_15 from q rfl) (x:=m) (y:=l) (z:=n) ⟨h1,h2,h3⟩ τ
  onS:=fun m l n h1 h2 h3=>(Un (m,l,n) ⟨h1,h2,h3⟩).2
  right:=fun m s τ h1 h2=>AP.c2 (show AP env _ 12 S_12 from q rfl) (x:=m) (y:=s) ⟨h1,h2⟩ τ
  print:=fun m s τ h1 h2=>AP.c2 (show AP env _ 11 S_11 from q rfl) (x:=m) (y:=s) ⟨h1,h2⟩ τ
  parse:=fun m s τ h1 hr hf=>AP.c2 (show AP env _ 21 S_21 from q rfl) (x:=m) (y:=CQ m s) ⟨h1,tT hr hf,fun _ _=>Uk hr hf⟩ τ
  num:=Ui
  copy:=fun s σ hs=>by
   rw [Dw (t:=t25) (by kernel_rfl) (by kernel_rfl) (by kernel_rfl) rfl]
   exact Ze (fun l τ hl=>ZV 1 l τ hl) s hs σ
  same:=fun a b τ h1 h2=>AP.c2 (show AP env _ 18 S_18 from q rfl) (x:=a) (y:=b) ⟨h1,h2⟩ τ
  same1:=fun v a b τ hk hz h1 h2=>AP.f2 (show AP env _ 18 S_18 from q rfl) (x:=a) (y:=b) ⟨h1,h2⟩ (bR hz hk (Ay.zero b)) (.inr rfl)
  init:=fun m τ h=>AP.c1 (show AP env _ 23 S_23 from q rfl) (x:=m) h τ }
theorem lF:Af env 5 (Hz EK (AA AJ) (AA AJ) BA (fun _ _ _=>True) (fun _ _ _=>true)):=kc3 (lm:=L_80) (lt:=Jy) Ar M_80 vI jC fun x l o _=>by
 obtain ⟨σ,e⟩:=Yv Yq (k:=2000000) (by omega) x l o
 exact ⟨3,2000000,_,σ,e,BZ (t:=BA) (x:=true)⟩
end
end Go.Proofs.YtglndmmlghpdpaaGreatDoor
namespace Go.Proofs.YtglndmmlghpdpaaGreatDoor
open Go Go.ChangeShapes Go.WideShapes Go.ChangeAt Go.RowKit
set_option maxRecDepth 100000
theorem own:ownKnob Tryz.prog.godebug=none:=by kernel_rfl
noncomputable def pW:List Int:=[1,10,100,1000,10000,100000,1000000,10000000,100000000,1000000000,10000000000,100000000000,1000000000000,10000000000000,100000000000000,1000000000000000,10000000000000000,100000000000000000,1000000000000000000,10000000000000000000]
theorem aN {W:World} (hL:laidMetH Tryz.prog Rows.statePlacesRow.laid W) (g:Nat) (cs:List SS.V) (hg:env.G g=some cs):(∃ kd zs,cs=zs.map (SS.V.int kd)∧SS.Ng W g kd zs)∨(cs=[.opq]∧SS.RC W g)∨(∃ zs,cs=zs.map SS.V.str∧SS.Nf W g zs):=by
 rw [MakeChecks.laidMetH_plain _ _ _ (by kernel_rfl)] at hL
 have hm:=SS.PT.ofL_mem _ (show SS.PT.getF gT g=some cs from hg)
 simp only [List.mem_cons,List.not_mem_nil,or_false,Prod.mk.injEq] at hm
 rcases hm with ⟨rfl,rfl⟩ | ⟨rfl,rfl⟩ | ⟨rfl,rfl⟩ | ⟨rfl,rfl⟩
 ·exact .inl ⟨.u64,pW,rfl,SS.uO (t:=183) (e:=131) (n:=20) (d:=Rows.laid_internal_strconv_uint64pow10) (by kernel_rfl) (by kernel_rfl) (by kernel_rfl) (by kernel_rfl) (by kernel_rfl) (by kernel_rfl) rfl (Lib.laidMet.reads hL (.tail _ (.tail _ (.head _))))⟩
 ·exact .inr (.inr ⟨[[120],[121],[122]],rfl,SS.QR (t:=91) (e:=9) (n:=3) (d:=Rows.laid_lariat_lariathand_vars) (by kernel_rfl) (by kernel_rfl) (by kernel_rfl) (by kernel_rfl) (by kernel_rfl) (by kernel_rfl) rfl (Lib.laidMet.reads hL (.tail _ (.tail _ (.tail _ (.tail _ (.tail _ (.tail _ (.head _))))))))⟩)
 ·exact .inr (.inr ⟨[[112],[113],[114]],rfl,SS.QR (t:=91) (e:=9) (n:=3) (d:=Rows.laid_lariat_lariathand_procs) (by kernel_rfl) (by kernel_rfl) (by kernel_rfl) (by kernel_rfl) (by kernel_rfl) (by kernel_rfl) rfl (Lib.laidMet.reads hL (.tail _ (.tail _ (.tail _ (.tail _ (.tail _ (.tail _ (.tail _ (.head _)))))))))⟩)
 ·exact .inr (.inr ⟨[[97],[98],[99],[100]],rfl,SS.QR (t:=118) (e:=9) (n:=4) (d:=Rows.laid_lariat_lariathand_locs) (by kernel_rfl) (by kernel_rfl) (by kernel_rfl) (by kernel_rfl) (by kernel_rfl) (by kernel_rfl) rfl (Lib.laidMet.reads hL (.tail _ (.tail _ (.tail _ (.tail _ (.tail _ (.tail _ (.tail _ (.tail _ (.head _))))))))))⟩)
theorem PK {n:Nat} {c:List SS.V} (h:SS.DM Tryz.prog (n+1) 3 c): ∃ z,c=[.int .i64 z]:=by
 unfold SS.DM at h
 rw [Tryz.underlying3] at h
 obtain ⟨z,h,_⟩:=h
 exact ⟨z,h⟩
theorem T9 {n:Nat} {c:List SS.V} (h:SS.DM Tryz.prog (n+2) 33 c): ∃ (v:SS.V) (l:List Int),c=[v]∧v.dep≤2∧SS.DY Tryz.prog 33 c=v∧∀ k,SS.frz env .empty (k+2) v=some ((SS.AA SS.AJ).enc l):=by
 unfold SS.DM at h
 rw [Tryz.underlying33] at h
 have hpk: ∀ v:SS.V,SS.DY Tryz.prog 33 [v]=v:=fun v=>by
  unfold SS.DY
  rw [Tryz.underlying33]
  rfl
 rcases h with rfl | ⟨cells,rfl,_,h3⟩
 ·exact ⟨.nilS,[],rfl,by decide,hpk _,fun k=>rfl⟩
 ·have key: ∀ cells:List (List SS.V),(∀ c∈cells,SS.DM Tryz.prog (n+1) 3 c)→∃ l:List Int,cells.map (SS.DY Tryz.prog 3)=l.map (SS.V.int .i64):=by
   intro cells
   induction cells with
   | nil=>intro _;exact ⟨[],rfl⟩
   | cons c r ih =>
    intro h
    obtain ⟨l,e⟩:=ih fun x hx=>h x (by simp [hx])
    obtain ⟨z,rfl⟩:=PK (h c (by simp))
    exact ⟨z :: l,by rw [List.map_cons,e,List.map_cons];congr 1⟩
  obtain ⟨l,e⟩:=key cells h3
  rw [e]
  refine ⟨_,l,rfl,?_,hpk _,fun k=>?_⟩
  ·have e2:(SS.V.lst (l.map (SS.V.int .i64)) false).dep=1+SS.V.dep.deps (l.map (SS.V.int .i64)):=rfl
   have:SS.V.dep.deps (l.map (SS.V.int .i64))≤1:=SS.KN.2 fun v hv=>by
    obtain ⟨a,_,rfl⟩:=List.mem_map.1 hv
    exact Nat.le_refl _
   omega
  ·match l with
   | []=>rfl
   | a :: r=>exact SS.O5 (t:=SS.AA SS.AJ) (d:=2) SS.Vh.list (by omega) (a :: r)
theorem qI {H:Type} {enc:TypeId×Value→H} {w:World} {sp:Nat→Bool} {held:Bool} {r:Reach} {base base':Nat} {v:Value} {d:DataW H} {p:List MemPlace} (h:DataW.Trod enc Tryz.prog w base sp held 24 v d p) (ho:Value.okWide Tryz.prog w r base' 24 v) :
 ∃ (u:SS.V) (x:Raw),SS.VR (fun _=>none) (SS.DB w) u v∧u.dep≤64∧SS.frz env .empty 64 u=some (EK.enc x):=by
 obtain ⟨cs,rfl,_⟩:=okWide_struct Tryz.underlying24 ho
 obtain ⟨fuel,h⟩:=h
 obtain ⟨vs,h1,h2⟩:=SS.WI 5 fuel 24 _ _ (by kernel_rfl) h
 have h2:SS.VRL _ _ vs cs.toList:=h2
 unfold SS.DM at h1
 rw [Tryz.underlying24] at h1
 obtain ⟨parts,rfl,hlen,hp⟩:=h1
 match parts,hlen with
 | [a,b,c],_ =>
  obtain ⟨z1,rfl⟩:=PK (hp 0 _ a rfl rfl)
  obtain ⟨z2,rfl⟩:=PK (hp 1 _ b rfl rfl)
  have h3:SS.DM Tryz.prog 4 22 c:=hp 2 _ c rfl rfl
  unfold SS.DM at h3
  rw [Tryz.underlying22] at h3
  have fin: ∀ (t:SS.V) (l:List (List Int)),c=[t]→t.dep≤10→SS.frz env .empty 63 t=some ((SS.AA (SS.AA SS.AJ)).enc l)→∃ (u:SS.V) (x:Raw),SS.VR (fun _=>none) (SS.DB w) u (.agg cs)∧u.dep≤64∧SS.frz env .empty 64 u=some (EK.enc x):=by
   intro t l hc hd hf
   subst hc
   refine ⟨.agg [.int .i64 z1,.int .i64 z2,t],⟨z1,z2,l⟩,?_,?_,?_⟩
   ·have:cs=cs.toList.toArray:=by simp
    rw [this]
    exact .agg _ _ h2
   ·have:=SS.JQ [.int .i64 z1,.int .i64 z2,t] 10 (by
     intro v hv
     simp at hv
     rcases hv with rfl | rfl | rfl
     ·exact Nat.le_add_left 1 9
     ·exact Nat.le_add_left 1 9
     ·exact hd)
    omega
   ·show (match [SS.V.int .i64 z1,.int .i64 z2,t].mapM (SS.frz env .empty 63) with | some ys=>some (SS.V.agg ys) | none=>none)=_
    rw [List.mapM_cons,List.mapM_cons,List.mapM_cons,List.mapM_nil,hf]
    rfl
  rcases h3 with rfl | ⟨cells,rfl,_,h4⟩
  ·exact fin .nilS [] rfl (by decide) rfl
  ·have key: ∀ cells:List (List SS.V),(∀ c∈cells,SS.DM Tryz.prog 3 33 c)→∃ l:List (List Int),(cells.map (SS.DY Tryz.prog 33)).mapM (SS.frz env .empty 62)=some (l.map (SS.AA SS.AJ).enc)∧(∀ v∈cells.map (SS.DY Tryz.prog 33),v.dep≤2)∧cells.length=l.length:=by
    intro cells
    induction cells with
    | nil=>intro _;exact ⟨[],rfl,by simp,rfl⟩
    | cons c r ih =>
     intro h
     obtain ⟨l,e1,e2,e3⟩:=ih fun x hx=>h x (by simp [hx])
     obtain ⟨v,li,rfl,g1,g2,g3⟩:=T9 (n:=1) (h c (by simp))
     refine ⟨li :: l,?_,?_,by simp [e3]⟩
     ·rw [List.map_cons,List.mapM_cons,g2,g3 60,e1];rfl
     ·intro x hx
      rw [List.map_cons,g2] at hx
      rcases List.mem_cons.1 hx with rfl | hx
      ·exact g1
      ·exact e2 x hx
   obtain ⟨l,e1,e2,e3⟩:=key cells h4
   refine fin _ l rfl ?_ ?_
   ·have e4:(SS.V.lst (cells.map (SS.DY Tryz.prog 33)) false).dep=1+SS.V.dep.deps (cells.map (SS.DY Tryz.prog 33)):=rfl
    have:=SS.KN.2 e2
    omega
   ·match cells,l,e1,e3 with
    | [],[],_,_=>rfl
    | c :: r,li :: l,e1,_ =>
     show (match ((c :: r).map (SS.DY Tryz.prog 33)).mapM (SS.frz env .empty 62) with | some ys=>some (SS.V.lst ys false) | none=>none)=_
     rw [e1];rfl
theorem Tz {H:Type} {enc:TypeId×Value→H} {w:World} {sp:Nat→Bool} {held:Bool} {r:Reach} {base base':Nat} {v:Value} {d:DataW H} {p:List MemPlace} (h:DataW.Trod enc Tryz.prog w base sp held 33 v d p) (ho:Value.okWide Tryz.prog w r base' 33 v) :
 ∃ (u:SS.V) (l:List Int),SS.VR (fun _=>none) (SS.DB w) u v∧u.dep≤64∧SS.frz env .empty 64 u=some ((SS.AA SS.AJ).enc l):=by
 obtain ⟨a,len,cap,rfl⟩:=okWide_slice Tryz.underlying33 ho
 obtain ⟨fuel,h⟩:=h
 obtain ⟨vs,h1,h2⟩:=SS.WI 5 fuel 33 _ _ (by kernel_rfl) h
 obtain ⟨u,l,rfl,g1,_,g3⟩:=T9 (n:=3) h1
 have h2:SS.VRL _ _ [u] [Value.slice a len cap]:=h2
 cases h2 with
 | cons _ _ _ _ h3 h4=>exact ⟨u,l,h3,by omega,g3 62⟩
theorem Oz {v u:SS.V} {vs us:List SS.V} (h:SS.frz env .empty 64 v=some u) (hd:v.dep≤64) (hr:SS.Bb env .empty vs=some us):SS.Bb env .empty (v :: vs)=some (u :: us):=by
 have e:SS.Bb env .empty (v :: vs)=(match (bif Nat.beq v.kind 0 then some v else SS.frz env .empty SS.DP v),SS.Bb env .empty vs with | some x,some xs=>some (x :: xs) | _,_=>none):=rfl
 rw [e,SS.bU h hd,hr]
end Go.Proofs.YtglndmmlghpdpaaGreatDoor
namespace Go.Proofs.YtglndmmlghpdpaaGreatDoor
open Go Go.ChangeShapes Go.WideShapes Go.ChangeAt Go.RowKit
set_option maxRecDepth 100000 in
theorem Yw (os:Os) (started:os.Started) (H:Type) (enc:TypeId×Value→H) :
 ReturnsInHanded {} Tryz.checked os 5 .any (fun w args=>(Rows.stateBackSpec.pre enc Tryz.prog Tryz.f5 Rows.stateBackRow.domain false w args∧laidMetH Tryz.prog Rows.stateBackRow.laid w)∧sizedMet enc Tryz.prog Tryz.f5 (OpenSpec.ofChange Rows.stateBackSpec) false w args)
  (Rows.stateBackSpec.post enc Tryz.prog Tryz.f5 false true false false):=by
 refine SS.qU (C:=Tryz.checked) (X:=fun w _=>laidMetH Tryz.prog Rows.stateBackRow.laid w) (fun _ _ _ hh h=>h.of_heap hh) own started (by kernel_rfl) Tryz.func5
  (ChangeSpec.witness_shaped (enc:=enc) (C:=Tryz.checked) (os:=os) (X:=fun w _=>laidMetH Tryz.prog Rows.stateBackRow.laid w) false (World.laidAll Tryz.prog os Rows.stateBackRow.laid) #[.agg #[.int .i64 0,.int .i64 0,.slice none 0 0],.slice none 0 0,.slice none 0 0] 8 (World.laidAll_os _ _ _)
    (World.shaped_of_ZipB (by kernel_rfl) (by kernel_rfl)) (by kernel_rfl) (by kernel_rfl) (by kernel_rfl)
    (by rw [MakeChecks.laidMetH_plain _ _ _ (by kernel_rfl)];exact laidMet_laidAll _ (by kernel_rfl) (by kernel_rfl))) ?_
 intro W base args ds gs before hval hW hL hsh
 have hW':=hW
 obtain ⟨p,q,hA0,hV,rfl,_,_⟩:=hW
 have hA:DataW.TrodAll enc Tryz.prog W 0 (fun _=>true) true Tryz.f5.params.toList args.toList ds p:=hA0
 obtain ⟨rfl,rfl⟩:=trodVars_none hV
 simp only [List.append_nil] at hW'
 have hlt:=hW'.lt
 have hback: ∀ W':World,(∀ i,i<W.heap.size→W'.heap[i]? = W.heap[i]?)→∀ sp:Nat→Bool,(∀ x∈p,sp x.block=true)→DataW.TrodAll enc Tryz.prog W' 0 sp true Tryz.f5.params.toList args.toList ds p :=
  fun W' hk sp hs=>SS.WE (n:=6) hk (by kernel_rfl) hA hlt hs
 have hA2:=hA
 rw [Tryz.params5] at hA2
 obtain ⟨v1,v2,v3,d1,d2,d3,p1,p2,p3,rfl,rfl,rfl,t1,t2,t3⟩:=trodAll_three hA2
 obtain ⟨u,x,hu,hd,hf⟩:=qI t1 (hval 0 24 _ rfl rfl)
 obtain ⟨u2,l,hu2,hd2,hf2⟩:=Tz t2 (hval 1 33 _ rfl rfl)
 obtain ⟨u3,o,hu3,hd3,hf3⟩:=Tz t3 (hval 2 33 _ rfl rfl)
 have hg:SS.Hz EK (SS.AA SS.AJ) (SS.AA SS.AJ) SS.BA (fun _ _ _=>True) (fun _ _ _=>true) [EK.enc x,(SS.AA SS.AJ).enc l,(SS.AA SS.AJ).enc o]=some (.bool true):=SS.Vt (SS.Jh (P:=fun _:Raw×List Int×List Int=>True) (g:=fun _:Raw×List Int×List Int=>true) (x:=(x,l,o)) trivial)
 refine (SS.l5 lF (c:=SS.IQ Tryz.f5) Tryz.func5 (by kernel_rfl) (by kernel_rfl) hg (us:=[u,u2,u3]) (args:=[v1,v2,v3]) (Oz hf hd (Oz hf2 hd2 (Oz hf3 hd3 rfl))) (SS.dA (aN hL) (idx hsh)) (.cons _ _ _ _ hu (.cons _ _ _ _ hu2 (.cons _ _ _ _ hu3 .nil)))).mono fun e W' he=>?_
 cases e with
 | panicked _=>exact he.elim
 | outgrown=>exact he.elim
 | returned v =>
  obtain ⟨rfl,hos,hout,hk⟩:=he
  exact ⟨_,rfl,pV (pa:=p1++p2++p3) (pv:=[]) hW' (fun _ _ _=>trodAll_mk1 (shut_bool Tryz.underlying4 true)) (fun sp hs=>hback W' hk sp hs) (fun _ _=>rfl) (by simp) hos hout hk (ok_one (by kernel_rfl) rfl (okWide_bool_mk Tryz.underlying4 _))⟩
end Go.Proofs.YtglndmmlghpdpaaGreatDoor
