/-
  part 13 of the proof; no condition.
-/
import Derived.Test.YtglndmmlghpdpaaGreatDoorPL
import Derived.Shelf.Strings.OnBuilder
import Derived.Shelf.Strconv.Itoa3
import Derived.Lib.AppendIntMem
import Derived.ProofKit
namespace Go.Proofs.YtglndmmlghpdpaaGreatDoor
open Go SS
set_option maxRecDepth 100000
noncomputable section
theorem aq (lm:List (FuncId×zAX)) (f:FuncId) (g:zAX) (h:memL lm f=some g):zAJ env (zAR env pu (memL lm) (txtL []) 1) f g:=zAO h (Nat.le_refl 1)
abbrev LT:=List (FuncId×zAX)
abbrev MO (l:LT):=zEi env (memL l)
def L_0:List (FuncId×zAX):=[]
theorem M_0:zEi env (memL L_0):=zFw
def S_54:zAX:=spc1 tU8 zAw (fun _=>True) SS.zBV
theorem K_54:zAg env 54 S_54:=kc1 (lm:=L_0) (lt:=[]) zAY M_0 zAH zSv fun x _=>zA4 (k:=1) (k':=1) ⟨_,zRD _ _ _ x⟩
def L_1:LT:=(54,S_54) :: L_0
theorem M_1:MO L_1:=zAE K_54 M_0
def S_53:zAX:=spc1 tU8 zAw (fun _=>True) SS.zCO
theorem K_53:zAg env 53 S_53:=kc1 (lm:=L_1) (lt:=[]) zAY M_1 zAH zQ7 fun x _=>zA4 (k:=1) (k':=1) ⟨_,zQl _ _ _ x⟩
def L_2:LT:=(53,S_53) :: L_1
theorem M_2:MO L_2:=zAE K_53 M_1
def S_103:zAX:=spc1 tInt tInt (fun _=>True) SS.arity
theorem K_103:zAg env 103 S_103:=kc1 (lm:=L_2) (lt:=[]) zAY M_2 zAH zOP fun x _=>zA4 (k:=1) (k':=1) ⟨_,zSD _ _ _ x⟩
def L_3:LT:=(103,S_103) :: L_2
theorem M_3:MO L_3:=zAE K_103 M_2
def S_124:zAX:=spc1 tInt tInt (fun _=>True) strength
theorem K_124:zAg env 124 S_124:=kc1 (lm:=L_3) (lt:=[]) zAY M_3 zAH zOq fun x _=>zA4 (k:=1) (k':=1) ⟨_,zLn _ _ x _⟩
def L_4:LT:=(124,S_124) :: L_3
theorem M_4:MO L_4:=zAE K_124 M_3
def S_30:zAX:=spc1 tInt zAw (fun _=>True) (fun c=>decide (-999≤c)&&decide (c≤999))
theorem K_30:zAg env 30 S_30:=kc1 (lm:=L_4) (lt:=[]) zAY M_4 zAH zTM fun x _=>zA4 (k:=1) (k':=1) ⟨_,zJB _ _ _ x⟩
def L_5:LT:=(30,S_30) :: L_4
theorem M_5:MO L_5:=zAE K_30 M_4
def S_57:zAX:=spc1 tInt zAw (fun _=>True) (fun c=>decide (1≤c)&&decide (c≤999))
theorem K_57:zAg env 57 S_57:=kc1 (lm:=L_5) (lt:=[]) zAY M_5 zAH zQS fun x _=>zA4 (k:=1) (k':=1) ⟨_,id_run _ _ _ x⟩
def L_6:LT:=(57,S_57) :: L_5
theorem M_6:MO L_6:=zAE K_57 M_5
def S_59:zAX:=spc2 zAF tStr tInt (fun m _=>zAb m) (fun m s=>m.variable s)
theorem K_59:zAg env 59 S_59:=kc2 (lm:=L_6) (lt:=[]) zAY M_6 zAH zQu fun m s h=>by
 have hl:=h.vars
 obtain ⟨σ,e⟩:=zLd (call:=zAR env pu (memL L_6) (txtL []) 1) (k:=2000000) m s h.vars (by omega)
 exact ⟨1,2000000,_,σ,e,zAW (t:=tInt)⟩
def L_7:LT:=(59,S_59) :: L_6
theorem M_7:MO L_7:=zAE K_59 M_6
def S_55:zAX:=spc2 zAF tStr tInt (fun m _=>zAb m) (fun m s=>m.process s)
theorem K_55:zAg env 55 S_55:=kc2 (lm:=L_7) (lt:=[]) zAY M_7 zAH zS9 fun m s h=>by
 have hl:=h.procs
 obtain ⟨σ,e⟩:=zM1 (call:=zAR env pu (memL L_7) (txtL []) 1) (k:=2000000) m s h.procs (by omega)
 exact ⟨1,2000000,_,σ,e,zAW (t:=tInt)⟩
def L_8:LT:=(55,S_55) :: L_7
theorem M_8:MO L_8:=zAE K_55 M_7
def S_45:zAX:=spc3 zAF tInt tStr tInt (fun m p _=>zAb m∧p<m.procs.length) zAL.place
theorem K_45:zAg env 45 S_45:=kc3 (lm:=L_8) (lt:=[]) zAY M_8 zAH zSz fun m p s h=>zA4 (k:=1) (k':=2000000) (zR0 m p s h.2 fun q hq=>⟨(h.1.proc q hq).2.1,by have:=(h.1.proc q hq).2.1;omega⟩)
def L_9:LT:=(45,S_45) :: L_8
theorem M_9:MO L_9:=zAE K_45 M_8
def S_31:zAX:=spc1 (zAB tStr) zAw (fun l=>l.length<1000000) twice
theorem K_31:zAg env 31 S_31:=kc1 (lm:=L_9) (lt:=[]) zAY M_9 zAH zSG fun l h=>zA4 (k:=1) (k':=2000000) ⟨_,zRe l h (by have:=h;omega) _⟩
def L_10:LT:=(31,S_31) :: L_9
theorem M_10:MO L_10:=zAE K_31 M_9
def S_29:zAX:=spc1 tStr zAw (fun s=>s.length<1000000) isWord
theorem K_29:zAg env 29 S_29:=kc1 (lm:=L_10) (lt:=[]) zAY M_10 zAH zSR fun s h=>zA4 (k:=1) (k':=2000000) ⟨_,zON (fun c τ=>zAJ.c1 (aq L_10 53 S_53 rfl) (x:=c) trivial τ) (fun c τ=>zAJ.c1 (aq L_10 54 S_54 rfl) (x:=c) trivial τ) s h (by have:=h;omega) _⟩
def L_11:LT:=(29,S_29) :: L_10
theorem M_11:MO L_11:=zAE K_29 M_10
def S_56:zAX:=spc1 tStr (zEk tStr zAw) (fun s=>s.length<1000000) (fun s=>(s.dropLast,zDK s))
theorem K_56:zAg env 56 S_56:=kc1 (lm:=L_11) (lt:=[]) zAY M_11 zAH zRc fun s h=>zA4 (k:=1) (k':=2000000) ⟨_,zM4 (fun s τ h=>zAJ.c1 (aq L_11 29 S_29 rfl) (x:=s) h τ) s h _⟩
def L_12:LT:=(56,S_56) :: L_11
theorem M_12:MO L_12:=zAE K_56 M_11
def S_77:zAX:=spc1 (zAB zAZ) zAw zBX zBY
theorem K_77:zAg env 77 S_77:=kc1 (lm:=L_12) (lt:=[]) zAY M_12 zAH zRR fun l h=>zA4 (k:=1) (k':=2000000) (zTX (fun s τ h=>zAJ.c1 (aq L_12 29 S_29 rfl) (x:=s) h τ) (fun n τ=>zAJ.c1 (aq L_12 103 S_103 rfl) (x:=n) trivial τ) l h (by have:=h.1;omega) _)
def L_13:LT:=(77,S_77) :: L_12
theorem M_13:MO L_13:=zAE K_77 M_12
def S_58:zAX:=spc2 zAF (zAB zAZ) zAw (fun m l=>zAb m∧zBX l) zAL.known
theorem K_58:zAg env 58 S_58:=kc2 (lm:=L_13) (lt:=[]) zAY M_13 zAH zQ8 fun m l h=>zA4 (k:=1) (k':=2000000) (zRQ ⟨fun s τ h=>zAJ.c1 (aq L_13 29 S_29 rfl) (x:=s) h τ,fun m s τ h=>zAJ.c2 (aq L_13 59 S_59 rfl) (x:=m) (y:=s) h τ,fun m s τ h=>zAJ.c2 (aq L_13 55 S_55 rfl) (x:=m) (y:=s) h τ,fun m p s τ h h2=>zAJ.c3 (aq L_13 45 S_45 rfl) (x:=m) (y:=p) (z:=s) ⟨h,h2⟩ τ,fun l τ h=>zAJ.c1 (aq L_13 77 S_77 rfl) (x:=l) h τ⟩ m l h.1 h.2 (by have:=h.2.1;omega))
def L_14:LT:=(58,S_58) :: L_13
theorem M_14:MO L_14:=zAE K_58 M_13
def S_32:zAX:=spc2 zAF zAi zAw (fun m t=>zAb m∧zCP t) zAL.rightT
theorem K_32:zAg env 32 S_32:=kc2 (lm:=L_14) (lt:=[]) zAY M_14 zAH zTR fun m t h=>zA4 (k:=1) (k':=2000000) (zIH ⟨fun s τ h=>zAJ.c1 (aq L_14 29 S_29 rfl) (x:=s) h τ,fun m s τ h=>zAJ.c2 (aq L_14 59 S_59 rfl) (x:=m) (y:=s) h τ,fun m s τ h=>zAJ.c2 (aq L_14 55 S_55 rfl) (x:=m) (y:=s) h τ,fun m p s τ h h2=>zAJ.c3 (aq L_14 45 S_45 rfl) (x:=m) (y:=p) (z:=s) ⟨h,h2⟩ τ,fun l τ h=>zAJ.c1 (aq L_14 77 S_77 rfl) (x:=l) h τ⟩ (fun s τ h=>zAJ.c1 (aq L_14 56 S_56 rfl) (x:=s) h τ) (fun c τ=>zAJ.c1 (aq L_14 57 S_57 rfl) (x:=c) trivial τ) (fun m l τ h h2=>zAJ.c2 (aq L_14 58 S_58 rfl) (x:=m) (y:=l) ⟨h,h2⟩ τ) m t h.1 h.2 (by have:=h.2.2.2.2.2.2.1;omega))
def L_15:LT:=(32,S_32) :: L_14
theorem M_15:MO L_15:=zAE K_32 M_14
def S_8:zAX:=spc1 zAF zAw zAb zAL.right
theorem K_8:zAg env 8 S_8:=kc1 (lm:=L_15) (lt:=[]) zAY M_15 zAH zT3 fun m h=>zA4 (k:=1) (k':=2000000) (zIE ⟨fun s τ h=>zAJ.c1 (aq L_15 29 S_29 rfl) (x:=s) h τ,fun c τ=>zAJ.c1 (aq L_15 30 S_30 rfl) (x:=c) trivial τ,fun v l τ hv h=>zAJ.f1 (aq L_15 31 S_31 rfl) (x:=l) h hv (.inr rfl),fun m t τ h h2=>zAJ.c2 (aq L_15 32 S_32 rfl) (x:=m) (y:=t) ⟨h,h2⟩ τ⟩ m h (by have:=h.vars;omega) (by have:=h.procs;omega) (fun p hp=>by have:=(h.proc p hp).2.1;omega) (by have:=h.trans;omega))
def L_16:LT:=(8,S_8) :: L_15
theorem M_16:MO L_16:=zAE K_8 M_15
def S_10:zAX:=spc2 tStr tU8 (zAB tStr) (fun s c=>s.length<1000000∧∃ b,c=by8 b) (fun s c=>cut (UInt8.ofNat c.toNat) s)
theorem K_10:zAg env 10 S_10:=kc2 (lm:=L_16) (lt:=[]) zAY M_16 zAH zQ9 fun s c h=>by
 obtain ⟨h1,b,rfl⟩:=h
 obtain ⟨v,τ,q,g1,g2⟩:=zW1 (call:=zAR env pu (memL L_16) (txtL []) 1) (k:=2000000) s b h1 (by omega)
 rw [zSe]
 exact ⟨1,2000000,v,τ,g1,zIz g2⟩
def L_17:LT:=(10,S_10) :: L_16
theorem M_17:MO L_17:=zAE K_10 M_16
def S_47:zAX:=spc1 tStr (zAB tStr) (fun s=>s.length<999999) zAS
theorem K_47:zAg env 47 S_47:=kc1 (lm:=L_17) (lt:=[]) zAY M_17 zAH zTT fun s h=>by
 obtain ⟨v,τ,q,g1,g2⟩:=zSw (call:=zAR env pu (memL L_17) (txtL []) 1) (fun s c τ h=>by have:=zAJ.c2 (aq L_17 10 S_10 rfl) (x:=s) (y:=by8 c) ⟨h,c,rfl⟩ τ;rw [zSe] at this;exact this) (k:=2000000) s h (by omega)
 exact ⟨1,2000000,v,τ,g1,zIz g2⟩
def L_18:LT:=(47,S_47) :: L_17
theorem M_18:MO L_18:=zAE K_47 M_17
end
end Go.Proofs.YtglndmmlghpdpaaGreatDoor
namespace Go.Proofs.YtglndmmlghpdpaaGreatDoor
open Go SS
set_option maxRecDepth 100000
noncomputable section
theorem zM8 {C:SS.Call} (h:zAJ env C 10 S_10) (s:B) (c:UInt8) (τ:St) (hs:s.length<1000000):C 10 [.str s,.int .u8 (by8 c)] τ=some ((zAB tStr).enc (cut c s),τ):=by
 have:=zAJ.c2 (a:=tStr) (b:=tU8) (c:=zAB tStr) (show zAJ env C 10 (spc2 tStr tU8 (zAB tStr) (fun s c=>s.length<1000000∧∃ b,c=by8 b) (fun s c=>cut (UInt8.ofNat c.toNat) s)) from h) (x:=s) (y:=by8 c) ⟨hs,c,rfl⟩ τ
 rw [zSe] at this
 exact this
def zWN:zAX:=spc2 tStr zAw (zEk tInt zAw) (fun s g=>s.length<1000000∧g=false) (fun s _=>zAs s)
theorem K_am0:zAg env 37 zWN:=kc2 (lm:=L_18) (lt:=[]) zAY M_18 zAH zLk fun s g h=>by
 obtain ⟨h1,rfl⟩:=h
 have e:=zEI (call:=zAR env pu (memL L_18) (txtL []) 1) (k:=2000000) (fun c τ=>zAJ.c1 (show zAJ env (zAR env pu (memL L_18) (txtL []) 1) 54 S_54 from zAO rfl (Nat.le_refl 1)) (x:=c) trivial τ) s h1 (by omega) .empty
 exact ⟨1,2000000,_,_,e,zAW (t:=zEk tInt zAw)⟩
def zTa:List (FuncId×zAX):=(37,zWN) :: L_18
theorem M_am0:zEi env (memL zTa):=zAE K_am0 M_18
def S_37:zAX:=spc2 tStr zAw (zEk tInt zAw) (fun s _=>s.length<1000000) amount
theorem K_37:zAg env 37 S_37:=kc2 (lm:=zTa) (lt:=[]) zAY M_am0 zAH zLk fun s g h=>by
 have e:=zOY (call:=zAR env pu (memL zTa) (txtL []) 1) (k:=2000000) (fun c τ=>zAJ.c1 (show zAJ env (zAR env pu (memL zTa) (txtL []) 1) 54 S_54 from zAO rfl (Nat.le_refl 1)) (x:=c) trivial τ)
  (fun s τ h=>zAJ.c2 (show zAJ env (zAR env pu (memL zTa) (txtL []) 1) 37 zWN from zAO rfl (Nat.le_refl 1)) (x:=s) (y:=false) ⟨h,rfl⟩ τ) s g h (by omega) .empty
 exact ⟨1,2000000,_,_,e,zAW (t:=zEk tInt zAw)⟩
def L_19:LT:=(37,S_37) :: L_18
theorem M_19:MO L_19:=zAE K_37 M_18
def S_50:zAX:=spc2 tStr tInt tStr (fun s n=>s.length<1000000∧0≤n∧n<10) (fun s n=>zCM s n.toNat)
theorem K_50:zAg env 50 S_50:=kc2 (lm:=L_19) (lt:=[]) zAY M_19 zAH zRP fun s n h=>by
 obtain ⟨h1,h2,h3⟩:=h
 obtain ⟨n,rfl⟩: ∃ m:Nat,n=(m:Int):=⟨n.toNat,by omega⟩
 rw [Int.toNat_natCast]
 have e:=zU0 (call:=zAR env pu (memL L_19) (txtL []) 1) (k:=2000000) s n h1 (by omega) (by omega) (by omega) .empty
 exact ⟨1,2000000,_,_,e,zAW (t:=tStr)⟩
def L_20:LT:=(50,S_50) :: L_19
theorem M_20:MO L_20:=zAE K_50 M_19
def S_48:zAX:=spc1 (zAB tStr) (zEk tVar zAw) (fun l=>l.length<1000000∧∀ s∈l,s.length<1000000) parseVar
theorem K_48:zAg env 48 S_48:=kc1 (lm:=L_20) (lt:=[]) zAY M_20 zAH zQG fun l h=>by
 obtain ⟨σ,e⟩:=zKm (call:=zAR env pu (memL L_20) (txtL []) 1) (k:=2000000) (fun s g τ h=>zAJ.c2 (aq L_20 37 S_37 rfl) (x:=s) (y:=g) h τ) l h.1 h.2
 exact ⟨1,2000000,_,σ,e,zAW (t:=zEk tVar zAw)⟩
def L_21:LT:=(48,S_48) :: L_20
theorem M_21:MO L_21:=zAE K_48 M_20
def S_pl (N:Nat):zAX:=spc1 tU64 tStr (fun n=>0≤n∧n<(N:Int)) (fun n=>zAv n.toNat)
theorem K_pl: ∀ j N:Nat,N≤10 ^ j→N≤4000000→zAg env 89 (S_pl N):=by
 intro j
 induction j with
 | zero =>
  intro N hN _
  refine kc1 (lm:=[]) (lt:=[]) zAY zFw zAH zLv fun n h=>?_
  have hn:n=0:=by have:N≤1:=hN;omega
  subst hn
  have e:=zMo (call:=zAR env pu (memL []) (txtL []) 1) (k:=2000000) 0 (by omega) (fun m τ h=>by omega) (by omega) .empty
  exact ⟨1,2000000,_,_,e,zAW (t:=tStr)⟩
 | succ j ih =>
  intro N hN hN2
  have hp:10 ^ (j+1)=10 ^ j*10:=Nat.pow_succ ..
  have k1:zAg env 89 (S_pl (min N (10 ^ j))):=ih (min N (10 ^ j)) (Nat.min_le_right _ _) (by omega)
  have hm:zEi env (memL [(89,S_pl (min N (10 ^ j)))]):=zAE k1 zFw
  show zAg env 89 (spc1 tU64 tStr (fun n=>0≤n∧n<(N:Int)) (fun n=>zAv n.toNat))
  refine kc1 (lm:=[(89,S_pl (min N (10 ^ j)))]) (lt:=[]) zAY hm zAH zLv fun n h=>?_
  obtain ⟨h1,h2⟩:=h
  obtain ⟨n,rfl⟩: ∃ m:Nat,n=(m:Int):=⟨n.toNat,by omega⟩
  rw [Int.toNat_natCast]
  have hlt:n<N:=by omega
  have hA:zAJ env (zAR env pu (memL [(89,S_pl (min N (10 ^ j)))]) (txtL []) 1) 89 (S_pl (min N (10 ^ j))):=zAO rfl (Nat.le_refl 1)
  have e:=zKN (call:=zAR env pu (memL [(89,S_pl (min N (10 ^ j)))]) (txtL []) 1) (k:=2000000) n (by omega) (fun h10 τ=>by
   have:=zAJ.c1 hA (x:=((n / 10:Nat):Int)) ⟨by omega,by omega⟩ τ
   rw [Int.toNat_natCast] at this
   exact this) .empty
  exact ⟨1,2000000,_,_,e,zAW (t:=tStr)⟩
def S_89:zAX:=S_pl 4000000
theorem K_89:zAg env 89 S_89:=K_pl 7 4000000 (by decide) (by decide)
def L_22:LT:=(89,S_89) :: L_21
theorem M_22:MO L_22:=zAE K_89 M_21
def S_66:zAX:=spc1 tInt tStr (fun n=>-1000000≤n∧n≤1000000) zAU
theorem K_66:zAg env 66 S_66:=kc1 (lm:=L_22) (lt:=[]) zAY M_22 zAH zSo fun n h=>by
 have e:=zMx (call:=zAR env pu (memL L_22) (txtL []) 1) (k:=2000000) n h.1 h.2 (fun m τ h=>by
  have:=zAJ.c1 (aq L_22 89 S_89 rfl) (x:=(m:Int)) ⟨by omega,by omega⟩ τ
  rw [Int.toNat_natCast] at this
  exact this) .empty
 exact ⟨1,2000000,_,_,e,zAW (t:=tStr)⟩
def L_23:LT:=(66,S_66) :: L_22
theorem M_23:MO L_23:=zAE K_66 M_22
def S_100:zAX:=spc1 (zAB tEff) zAw zF2 zLf
theorem K_100:zAg env 100 S_100:=kc1 (lm:=L_23) (lt:=[]) zAY M_23 zAH zOk fun l h=>by
 have hl:=h.1
 have e:=zGm (call:=zAR env pu (memL L_23) (txtL []) 1) (k:=2000000) (fun s τ h=>zAJ.c1 (aq L_23 29 S_29 rfl) (x:=s) h τ) (fun l τ h=>zAJ.c1 (aq L_23 77 S_77 rfl) (x:=l) h τ) l h (by omega) .empty
 exact ⟨1,2000000,_,_,e,zAW (t:=zAw)⟩
def L_24:LT:=(100,S_100) :: L_23
theorem M_24:MO L_24:=zAE K_100 M_23
theorem zQB: ∃ F:B→B,∀ s,(1≤s.length∧s.length<1000000)→(∃ σ,t122 (zAR env pu (memL []) (txtL []) 1) 2000000 [.str s] .empty=some (.str (F s),σ))∧(F s).length≤s.length :=
 zC8 (P:=fun s:B=>1≤s.length∧s.length<1000000) (R:=fun s r=>(∃ σ,t122 (zAR env pu (memL []) (txtL []) 1) 2000000 [.str s] .empty=some (.str r,σ))∧r.length≤s.length) fun s h=>by
  obtain ⟨r,σ,e1,e2⟩:=zTv (call:=zAR env pu (memL []) (txtL []) 1) (k:=2000000) s h.2 h.1 (by omega)
  exact ⟨r,⟨σ,e1⟩,e2⟩
def sgF:B→B:=zQB.choose
theorem zVT: ∀ s,(1≤s.length∧s.length<1000000)→(∃ σ,t122 (zAR env pu (memL []) (txtL []) 1) 2000000 [.str s] .empty=some (.str (sgF s),σ))∧(sgF s).length≤s.length:=zQB.choose_spec
def S_122:zAX:=spc1 tStr tStr (fun s=>1≤s.length∧s.length<1000000) sgF
theorem K_122:zAg env 122 S_122:=kc1 (lm:=[]) (lt:=[]) zAY zFw zAH zOX fun s h=>by
 obtain ⟨σ,e⟩:=(zVT s h).1
 exact ⟨1,2000000,_,σ,e,zAW (t:=tStr)⟩
def L_25:LT:=(122,S_122) :: L_24
theorem M_25:MO L_25:=zAE K_122 M_24
theorem zVi: ∃ F:zA8×Int→Int,∀ x:zA8×Int,True→(∃ σ,t147 (zAR env pu (memL L_25) (txtL []) 1) 2000000 [zAc.enc x.1,.int .i64 x.2] .empty=some (.int .i64 (F x),σ))∧(F x=0∨(6≤F x∧F x≤16∧x.1.kind=4)) :=
 zC8 (P:=fun _:zA8×Int=>True) (R:=fun x n=>(∃ σ,t147 (zAR env pu (memL L_25) (txtL []) 1) 2000000 [zAc.enc x.1,.int .i64 x.2] .empty=some (.int .i64 n,σ))∧(n=0∨(6≤n∧n≤16∧x.1.kind=4))) fun x _=>by
  obtain ⟨n,σ,e1,e2⟩:=zOl (call:=zAR env pu (memL L_25) (txtL []) 1) (k:=2000000) (fun n τ=>zAJ.c1 (show zAJ env (zAR env pu (memL L_25) (txtL []) 1) 124 S_124 from zAO rfl (Nat.le_refl 1)) (x:=n) trivial τ) x.1 x.2 (by omega)
  exact ⟨n,⟨σ,e1⟩,e2⟩
def binF:zA8×Int→Int:=zVi.choose
theorem zQq: ∀ x:zA8×Int,True→(∃ σ,t147 (zAR env pu (memL L_25) (txtL []) 1) 2000000 [zAc.enc x.1,.int .i64 x.2] .empty=some (.int .i64 (binF x),σ))∧(binF x=0∨(6≤binF x∧binF x≤16∧x.1.kind=4)):=zVi.choose_spec
def S_147:zAX:=spc2 zAc tInt tInt (fun _ _=>True) (fun t n=>binF (t,n))
theorem K_147:zAg env 147 S_147:=kc2 (lm:=L_25) (lt:=[]) zAY M_25 zAH zPK fun t n _=>by
 obtain ⟨σ,e⟩:=(zQq (t,n) trivial).1
 exact ⟨1,2000000,_,σ,e,zAW (t:=tInt)⟩
def L_26:LT:=(147,S_147) :: L_25
theorem M_26:MO L_26:=zAE K_147 M_25
end
end Go.Proofs.YtglndmmlghpdpaaGreatDoor
namespace Go.Proofs.YtglndmmlghpdpaaGreatDoor
open Go SS
set_option maxRecDepth 100000
noncomputable section
theorem zHZ {τ:St} {vs us:List V} (hk:V.kind.kinds vs≠0) (h:vs.mapM (frz env τ 63)=some us):(V.tup vs).kind≠0∧frz env τ 64 (.tup vs)=some (.tup us):=by
 refine ⟨by rw [zDJ];exact hk,?_⟩
 show (match vs.mapM (frz env τ 63) with | some ys=>some (V.tup ys) | none=>none)=_
 rw [h]
theorem zH5 {τ:St} {v u:V} (hk:v.kind≠0) (h:frz env τ 64 v=some u):zB2 env τ v u:=.inr ⟨hk,h⟩
theorem zKO: ∀ r:LexR,(zEJ r).kind=0
 | .toks l=>by show (V.tup _).kind=0;rw [zDJ,zAI,zAI,zAI,(zAB zAc).zero];rfl
 | .none _ _=>rfl
theorem zIh: ∀ r:zKY,(zDM r).kind=0
 | .terms l a=>by show (V.tup _).kind=0;rw [zDJ,zAI,zAI,zAI,(zAB zAZ).zero];rfl
 | .none _ _=>rfl
theorem zE8: ∀ r:zHc,(zDo r).kind=0
 | .terms l=>by show (V.tup _).kind=0;rw [zDJ,zAI,zAI,zAI,(zAB zAZ).zero];rfl
 | .none _ _=>rfl
theorem zKP: ∀ r:EffR,(zHn r).kind=0
 | .effs l=>by show (V.tup _).kind=0;rw [zDJ,zAI,zAI,(zAB tEff).zero];rfl
 | .none=>rfl
instance:Inhabited LexR:=⟨.none 0 0⟩
instance:Inhabited zKY:=⟨.none 0 0⟩
instance:Inhabited zHc:=⟨.none 0 0⟩
instance:Inhabited EffR:=⟨.none⟩
instance:Inhabited zBP:=⟨⟨0,[],[],[],[],[],[]⟩⟩
instance:Inhabited zAL:=⟨⟨[],[],[]⟩⟩
instance:Inhabited zCD:=⟨⟨[],[]⟩⟩
theorem zVx: ∃ F:B→LexR,∀ s,True→(∃ v σ,t98 (zAR env pu (memL L_26) (txtL []) 1) 2000000 [.str s] .empty=some (v,σ)∧zB2 env σ v (zEJ (F s)))∧zQn (F s) :=
 zC8 (P:=fun _:B=>True) (R:=fun s r=>(∃ v σ,t98 (zAR env pu (memL L_26) (txtL []) 1) 2000000 [.str s] .empty=some (v,σ)∧zB2 env σ v (zEJ r))∧zQn r) fun s _=>by
  obtain ⟨v,σ,e1,e2⟩:=zWf (call:=zAR env pu (memL L_26) (txtL []) 1) (k:=2000000) (fun c τ=>zAJ.c1 (show zAJ env (zAR env pu (memL L_26) (txtL []) 1) 54 S_54 from zAO rfl (Nat.le_refl 1)) (x:=c) trivial τ)
   (fun c τ=>zAJ.c1 (show zAJ env (zAR env pu (memL L_26) (txtL []) 1) 53 S_53 from zAO rfl (Nat.le_refl 1)) (x:=c) trivial τ) sgF
   (fun s τ h1 h2=>zAJ.c1 (show zAJ env (zAR env pu (memL L_26) (txtL []) 1) 122 S_122 from zAO rfl (Nat.le_refl 1)) (x:=s) ⟨h1,h2⟩ τ) (fun s h1 h2=>(zVT s ⟨h1,h2⟩).2) s (by omega)
  rcases e2 with ⟨x,toks,b,rfl,hL,hT,h1⟩ | ⟨e,a,rfl,h1,h2,h3⟩
  ·have hk:=zFv hL
   obtain ⟨q1,q2⟩:=zHZ (τ:=σ) (vs:=[x,.int .i64 0,.int .i64 0]) (us:=[(zAB zAc).enc toks,.int .i64 0,.int .i64 0]) (by rw [zAI];omega) (by rw [List.mapM_cons,List.mapM_cons,List.mapM_cons,List.mapM_nil,zUh (n:=62) (by omega) hL];rfl)
   exact ⟨.toks toks,⟨_,σ,e1,zH5 q1 q2⟩,hT,h1⟩
  ·exact ⟨.none e a,⟨_,σ,e1,.inr ⟨(by intro h;cases h),rfl⟩⟩,h1,h2,h3⟩
def lexF:B→LexR:=zVx.choose
theorem zMi: ∀ s,True→(∃ v σ,t98 (zAR env pu (memL L_26) (txtL []) 1) 2000000 [.str s] .empty=some (v,σ)∧zB2 env σ v (zEJ (lexF s)))∧zQn (lexF s):=zVx.choose_spec
def S_98:zAX:=spc1 tStr tV0 (fun _=>True) (fun s=>⟨zEJ (lexF s),zKO _⟩)
theorem K_98:zAg env 98 S_98:=kc1 (lm:=L_26) (lt:=[]) zAY M_26 zAH zSF fun s _=>by
 obtain ⟨v,σ,e1,e2⟩:=(zMi s trivial).1
 exact ⟨1,2000000,v,σ,e1,e2⟩
def L_27:LT:=(98,S_98) :: L_26
theorem M_27:MO L_27:=zAE K_98 M_26
def txtR:List (FuncId×Text):=[(123,t123),(146,t146),(153,t153),(154,t154)]
theorem zWR:zFF env pu (txtL txtR):=zA5 zOu (zA5 zOW (zA5 zPI (zA5 zOb zAH)))
theorem reads:zIQ (zAR env pu (memL L_27) (txtL txtR)) (fun t n=>binF (t,n)) where
 level k vs σ:=zBA (by kernel_rfl) (by kernel_rfl) (by kernel_rfl) rfl k vs σ
 unary k vs σ:=zBA (by kernel_rfl) (by kernel_rfl) (by kernel_rfl) rfl k vs σ
 is k vs σ:=zBA (by kernel_rfl) (by kernel_rfl) (by kernel_rfl) rfl k vs σ
 fail k vs σ:=zBA (by kernel_rfl) (by kernel_rfl) (by kernel_rfl) rfl k vs σ
 binary k hk t lv τ:=zAJ.c2 (show zAJ env (zAR env pu (memL L_27) (txtL txtR) k) 147 S_147 from zAO rfl hk) (x:=t) (y:=lv) trivial τ
 bop t lv:=by rcases (zQq (t,lv) trivial).2 with h | h;exact .inl h;exact .inr h.2.2
theorem zTP: ∃ F:List zA8×Nat→zKY,∀ x:List zA8×Nat,(Toks x.1∧x.2<x.1.length)→(∃ k v σ,t99 (zAR env pu (memL L_27) (txtL txtR) k) k [(zAB zAc).enc x.1,.int .i64 (x.2:Int)] .empty=some (v,σ)∧zB2 env σ v (zDM (F x)))∧zKS x.1 (F x) :=
 zC8 (P:=fun x:List zA8×Nat=>Toks x.1∧x.2<x.1.length) (R:=fun x r=>(∃ k v σ,t99 (zAR env pu (memL L_27) (txtL txtR) k) k [(zAB zAc).enc x.1,.int .i64 (x.2:Int)] .empty=some (v,σ)∧zB2 env σ v (zDM r))∧zKS x.1 r) fun x h=>by
  obtain ⟨K,v,σ,e1,e2⟩:=zUm reads h.1 x.2 h.2
  rcases e2 with ⟨y,out,a',b,rfl,hL,h1,h2,h3⟩ | ⟨a',e,rfl,h1,h2⟩
  ·have hk:=zFv hL
   obtain ⟨q1,q2⟩:=zHZ (τ:=σ) (vs:=[y,.int .i64 (a':Int),.int .i64 0]) (us:=[(zAB zAZ).enc out,.int .i64 (a':Int),.int .i64 0]) (by rw [zAI];omega) (by rw [List.mapM_cons,List.mapM_cons,List.mapM_cons,List.mapM_nil,zSO (n:=62) (by omega) hL];rfl)
   exact ⟨.terms out a',⟨K,_,σ,e1 K (Nat.le_refl _),zH5 q1 q2⟩,h1,h2,h3⟩
  ·exact ⟨.none a' e,⟨K,_,σ,e1 K (Nat.le_refl _),.inr ⟨(by intro h;cases h),rfl⟩⟩,h1,h2⟩
def zCN:List zA8×Nat→zKY:=zTP.choose
theorem zJz: ∀ x:List zA8×Nat,(Toks x.1∧x.2<x.1.length)→(∃ k v σ,t99 (zAR env pu (memL L_27) (txtL txtR) k) k [(zAB zAc).enc x.1,.int .i64 (x.2:Int)] .empty=some (v,σ)∧zB2 env σ v (zDM (zCN x)))∧zKS x.1 (zCN x):=zTP.choose_spec
def S_99:zAX:=spc2 (zAB zAc) tInt tV0 (fun l a=>Toks l∧0≤a∧a<l.length) (fun l a=>⟨zDM (zCN (l,a.toNat)),zIh _⟩)
theorem K_99:zAg env 99 S_99:=kc2 (lm:=L_27) (lt:=txtR) zAY M_27 zWR zQs fun l a h=>by
 obtain ⟨h1,h2,h3⟩:=h
 obtain ⟨a,rfl⟩: ∃ m:Nat,a=(m:Int):=⟨a.toNat,by omega⟩
 obtain ⟨k,v,σ,e1,e2⟩:=(zJz (l,a) ⟨h1,by show a<l.length;omega⟩).1
 exact ⟨k,k,v,σ,e1,e2⟩
def L_28:LT:=(99,S_99) :: L_27
theorem M_28:MO L_28:=zAE K_99 M_27
theorem zR2 {C:SS.Call} (h:zAJ env C 98 S_98) (s:B) (τ:St):C 98 [.str s] τ=some (zEJ (lexF s),τ):=zAJ.c1 (a:=tStr) (c:=tV0) (P:=fun _=>True) (g:=fun s=>⟨zEJ (lexF s),zKO _⟩) h (x:=s) trivial τ
theorem zOF {C:SS.Call} (h:zAJ env C 99 S_99) (l:List zA8) (a:Nat) (τ:St) (h1:Toks l) (h2:a<l.length):C 99 [(zAB zAc).enc l,.int .i64 (a:Int)] τ=some (zDM (zCN (l,a)),τ):=by
 have:=zAJ.c2 (a:=zAB zAc) (b:=tInt) (c:=tV0) (P:=fun l a=>Toks l∧0≤a∧a<l.length) (g:=fun l a=>⟨zDM (zCN (l,a.toNat)),zIh _⟩) h (x:=l) (y:=(a:Int)) ⟨h1,by omega,by omega⟩ τ
 rw [Int.toNat_natCast] at this
 exact this
theorem zOL: ∃ F:B→zHc,∀ s,True→(∃ v σ,t70 (zAR env pu (memL L_28) (txtL []) 1) 2000000 [.str s] .empty=some (v,σ)∧zB2 env σ v (zDo (F s)))∧zJ9 (F s) :=
 zC8 (P:=fun _:B=>True) (R:=fun s r=>(∃ v σ,t70 (zAR env pu (memL L_28) (txtL []) 1) 2000000 [.str s] .empty=some (v,σ)∧zB2 env σ v (zDo r))∧zJ9 r) fun s _=>by
  obtain ⟨v,e1,e2⟩:=zRI (call:=zAR env pu (memL L_28) (txtL []) 1) (k:=2000000) lexF (fun s=>(zMi s trivial).2) (fun s τ=>zR2 (zAO rfl (Nat.le_refl 1)) s τ) (fun l a=>zCN (l,a)) (fun l a h1 h2=>(zJz (l,a) ⟨h1,h2⟩).2) (fun l a τ h1 h2=>zOF (zAO rfl (Nat.le_refl 1)) l a τ h1 h2) s .empty
  rcases e2 with ⟨l,rfl,h1,h2⟩ | ⟨e,a,rfl,h1⟩
  ·exact ⟨.terms l,⟨_,_,e1,.inl ⟨zE8 (.terms l),rfl⟩⟩,h1,h2⟩
  ·exact ⟨.none e a,⟨_,_,e1,.inr ⟨(by intro h;cases h),rfl⟩⟩,h1⟩
def zKk:B→zHc:=zOL.choose
theorem zK0: ∀ s,True→(∃ v σ,t70 (zAR env pu (memL L_28) (txtL []) 1) 2000000 [.str s] .empty=some (v,σ)∧zB2 env σ v (zDo (zKk s)))∧zJ9 (zKk s):=zOL.choose_spec
def S_70:zAX:=spc1 tStr tV0 (fun _=>True) (fun s=>⟨zDo (zKk s),zE8 _⟩)
theorem K_70:zAg env 70 S_70:=kc1 (lm:=L_28) (lt:=[]) zAY M_28 zAH zSg fun s _=>by
 obtain ⟨v,σ,e1,e2⟩:=(zK0 s trivial).1
 exact ⟨1,2000000,v,σ,e1,e2⟩
def L_29:LT:=(70,S_70) :: L_28
theorem M_29:MO L_29:=zAE K_70 M_28
theorem zTV: ∃ F:List B→EffR,∀ l,l.length<1000000→(∃ v σ,t71 (zAR env pu (memL L_29) (txtL []) 1) 2000000 [(zAB tStr).enc l] .empty=some (v,σ)∧zB2 env σ v (zHn (F l)))∧zUB (F l) :=
 zC8 (P:=fun l:List B=>l.length<1000000) (R:=fun l r=>(∃ v σ,t71 (zAR env pu (memL L_29) (txtL []) 1) 2000000 [(zAB tStr).enc l] .empty=some (v,σ)∧zB2 env σ v (zHn r))∧zUB r) fun l hl=>by
  obtain ⟨v,σ,e1,e2⟩:=zGs (call:=zAR env pu (memL L_29) (txtL []) 1) (k:=2000000) lexF (fun s=>(zMi s trivial).2) (fun s τ=>zR2 (zAO rfl (Nat.le_refl 1)) s τ) (fun l a=>zCN (l,a)) (fun l a h1 h2=>(zJz (l,a) ⟨h1,h2⟩).2) (fun l a τ h1 h2=>zOF (zAO rfl (Nat.le_refl 1)) l a τ h1 h2) l hl (by omega)
  rcases e2 with rfl | ⟨x,effs,b,rfl,hL,hX⟩
  ·exact ⟨.none,⟨_,_,e1,.inr ⟨(by intro h;cases h),rfl⟩⟩,trivial⟩
  ·have hk:=zFv hL
   obtain ⟨q1,q2⟩:=zHZ (τ:=σ) (vs:=[x,.bool true]) (us:=[(zAB tEff).enc effs,.bool true]) (by rw [zAI];omega) (by rw [List.mapM_cons,List.mapM_cons,List.mapM_nil,zU2 (n:=62) (by omega) hL];rfl)
   exact ⟨.effs effs,⟨_,σ,e1,zH5 q1 q2⟩,hX⟩
def zTd:List B→EffR:=zTV.choose
theorem zN3: ∀ l,l.length<1000000→(∃ v σ,t71 (zAR env pu (memL L_29) (txtL []) 1) 2000000 [(zAB tStr).enc l] .empty=some (v,σ)∧zB2 env σ v (zHn (zTd l)))∧zUB (zTd l):=zTV.choose_spec
def S_71:zAX:=spc1 (zAB tStr) tV0 (fun l=>l.length<1000000) (fun l=>⟨zHn (zTd l),zKP _⟩)
theorem K_71:zAg env 71 S_71:=kc1 (lm:=L_29) (lt:=[]) zAY M_29 zAH zRt fun l h=>by
 obtain ⟨v,σ,e1,e2⟩:=(zN3 l h).1
 exact ⟨1,2000000,v,σ,e1,e2⟩
def L_30:LT:=(71,S_71) :: L_29
theorem M_30:MO L_30:=zAE K_71 M_29
end
end Go.Proofs.YtglndmmlghpdpaaGreatDoor
namespace Go.Proofs.YtglndmmlghpdpaaGreatDoor
open Go SS
set_option maxRecDepth 100000
noncomputable section
def S_125:zAX:=spc2 tSpk tInt tStr (fun x _=>x.s.length<1000000000) (fun x n=>zCm x.s x.lv n)
theorem K_125:zAg env 125 S_125:=kc2 (lm:=L_30) (lt:=[]) zAY M_30 zAH zPa fun x n h=>by
 obtain ⟨σ,e⟩:=zP0 (zAR env pu (memL L_30) (txtL []) 1) 2000000 x.s x.lv n h
 exact ⟨1,2000000,_,σ,e,zAW (t:=tStr)⟩
def L_31:LT:=(125,S_125) :: L_30
theorem M_31:MO L_31:=zAE K_125 M_30
def S_101:zAX:=spc1 (zAB zAZ) tStr zBX zCh
theorem K_101:zAg env 101 S_101:=kc1 (lm:=L_31) (lt:=[]) zAY M_31 zAH zPY fun l h=>by
 have hl:=h.1
 obtain ⟨σ,e⟩:=zR5 (call:=zAR env pu (memL L_31) (txtL []) 1) (k:=2000000) ⟨fun n τ=>zAJ.c1 (aq L_31 124 S_124 rfl) (x:=n) trivial τ,fun n τ=>zAJ.c1 (aq L_31 103 S_103 rfl) (x:=n) trivial τ,fun n τ h1 h2=>zAJ.c1 (aq L_31 66 S_66 rfl) (x:=n) ⟨h1,h2⟩ τ,fun s lv n τ h=>zAJ.c2 (aq L_31 125 S_125 rfl) (x:=⟨s,lv⟩) (y:=n) h τ⟩ (fun l τ h=>zAJ.c1 (aq L_31 77 S_77 rfl) (x:=l) h τ) l h (by omega)
 exact ⟨1,2000000,_,σ,e,zAW (t:=tStr)⟩
def L_32:LT:=(101,S_101) :: L_31
theorem M_32:MO L_32:=zAE K_101 M_31
def S_102:zAX:=spc1 (zAB tEff) tStr zF2 (zEl zCh)
theorem K_102:zAg env 102 S_102:=kc1 (lm:=L_32) (lt:=[]) zAY M_32 zAH zPp fun l h=>by
 have hl:=h.1
 have e:=zGo (call:=zAR env pu (memL L_32) (txtL []) 1) (k:=2000000) zCh (fun l τ h=>zAJ.c1 (aq L_32 101 S_101 rfl) (x:=l) h τ) zLt l h (by omega) .empty
 exact ⟨1,2000000,_,_,e,zAW (t:=tStr)⟩
def L_33:LT:=(102,S_102) :: L_32
theorem M_33:MO L_33:=zAE K_102 M_32
def S_72:zAX:=spc1 zAi tStr zCP (fun t=>if zEz t then zLo zCh t else [])
theorem K_72:zAg env 72 S_72:=kc1 (lm:=L_33) (lt:=[]) zAY M_33 zAH zSY fun t h=>by
 obtain ⟨σ,e⟩:=zII (call:=zAR env pu (memL L_33) (txtL []) 1) (k:=2000000) zCh (fun l τ h=>zAJ.c1 (aq L_33 101 S_101 rfl) (x:=l) h τ) zLt (fun s τ h=>zAJ.c1 (aq L_33 29 S_29 rfl) (x:=s) h τ) (fun s τ h=>zAJ.c1 (aq L_33 56 S_56 rfl) (x:=s) h τ) (fun c τ=>zAJ.c1 (aq L_33 57 S_57 rfl) (x:=c) trivial τ) (fun l τ h=>zAJ.c1 (aq L_33 77 S_77 rfl) (x:=l) h τ) (fun l τ h=>zAJ.c1 (aq L_33 100 S_100 rfl) (x:=l) h τ) (fun n τ h1 h2=>zAJ.c1 (aq L_33 66 S_66 rfl) (x:=n) ⟨h1,h2⟩ τ) (fun l τ h=>zAJ.c1 (aq L_33 102 S_102 rfl) (x:=l) h τ) (fun n h1 h2=>by have:=zCB n (by omega) h2;omega) t h
 exact ⟨1,2000000,_,σ,e,zAW (t:=tStr)⟩
def L_34:LT:=(72,S_72) :: L_33
theorem M_34:MO L_34:=zAE K_72 M_33
theorem zTm (s:B):amount s false=zAs s:=by
 unfold amount
 split<;>simp
theorem zKf (l:List B):V.kind.kinds [V.lst (l.map V.str) false]≤1:=(zJn l .empty).2
theorem zLw: ∃ F:B→zBP×Bool,∀ s,s.length<900000→(∃ v σ,t49 (zAR env pu (memL L_34) (txtL []) 1) 2000000 [.str s] .empty=some (v,σ)∧zB2 env σ v ((zEk zAi zAw).enc (F s)))∧zCP (F s).1 :=
 zC8 (P:=fun s:B=>s.length<900000) (R:=fun s r=>(∃ v σ,t49 (zAR env pu (memL L_34) (txtL []) 1) 2000000 [.str s] .empty=some (v,σ)∧zB2 env σ v ((zEk zAi zAw).enc r))∧zCP r.1) fun s hs=>by
  have hP:zAJ env (zAR env pu (memL L_34) (txtL []) 1) 70 S_70:=zAO rfl (Nat.le_refl 1)
  have hE:zAJ env (zAR env pu (memL L_34) (txtL []) 1) 71 S_71:=zAO rfl (Nat.le_refl 1)
  have hS:zAJ env (zAR env pu (memL L_34) (txtL []) 1) 50 S_50:=zAO rfl (Nat.le_refl 1)
  have hA:zAJ env (zAR env pu (memL L_34) (txtL []) 1) 37 S_37:=zAO rfl (Nat.le_refl 1)
  have hW:zAJ env (zAR env pu (memL L_34) (txtL []) 1) 47 S_47:=zAO rfl (Nat.le_refl 1)
  have hC:zAJ env (zAR env pu (memL L_34) (txtL []) 1) 56 S_56:=zAO rfl (Nat.le_refl 1)
  have hT:zAJ env (zAR env pu (memL L_34) (txtL []) 1) 72 S_72:=zAO rfl (Nat.le_refl 1)
  obtain ⟨v,σ,e1,e2⟩:=zIG (call:=zAR env pu (memL L_34) (txtL []) 1) (k:=2000000) (fun s τ h=>zAJ.c1 hW (x:=s) h τ) (fun s τ h=>by have:=zAJ.c2 hA (x:=s) (y:=false) h τ;rw [zTm] at this;exact this)
   (fun s τ h=>zAJ.c1 hC (x:=s) h τ) (fun s n τ h1 h2=>by have:=zAJ.c2 hS (x:=s) (y:=(n:Int)) ⟨h1,by omega,by omega⟩ τ;exact this) (fun s c τ h=>zM8 (zAO rfl (Nat.le_refl 1)) s c τ h)
   zKk (fun s=>(zK0 s trivial).2) (fun s τ=>zAJ.c1 (a:=tStr) (c:=tV0) (P:=fun _=>True) (g:=fun s=>⟨zDo (zKk s),zE8 _⟩) hP (x:=s) trivial τ)
   (fun l=>if l.length<1000000 then zTd l else .none) (fun l=>by split;exact (zN3 l (by assumption)).2;trivial) (fun l τ h=>by
     rw [if_pos h]
     exact zAJ.f1 (a:=zAB tStr) (c:=tV0) (P:=fun l=>l.length<1000000) (g:=fun l=>⟨zHn (zTd l),zKP _⟩) hE (x:=l) h (zJn l τ).1 (.inl (zKf l)))
   (fun t=>if zEz t then zLo zCh t else []) (fun a b c d e g f τ h=>zAJ.c1 hT (x:=⟨a,b,c,d,e,g,f⟩) h τ) s hs
  rcases e2 with rfl | ⟨t,rfl,hT⟩
  ·exact ⟨(⟨0,[],[],[],[],[],[]⟩,false),⟨_,σ,e1,.inr ⟨(by intro h;cases h),rfl⟩⟩,by decide,by decide,by decide,by decide,⟨by decide,by simp⟩,by decide,by simp⟩
  ·exact ⟨(t,true),⟨_,σ,e1,zAW (t:=zEk zAi zAw) (x:=(t,true))⟩,hT⟩
def ptF:B→zBP×Bool:=zLw.choose
theorem zVw: ∀ s,s.length<900000→(∃ v σ,t49 (zAR env pu (memL L_34) (txtL []) 1) 2000000 [.str s] .empty=some (v,σ)∧zB2 env σ v ((zEk zAi zAw).enc (ptF s)))∧zCP (ptF s).1:=zLw.choose_spec
def S_49:zAX:=spc1 tStr (zEk zAi zAw) (fun s=>s.length<900000) ptF
theorem K_49:zAg env 49 S_49:=kc1 (lm:=L_34) (lt:=[]) zAY M_34 zAH zQM fun s h=>by
 obtain ⟨v,σ,e1,e2⟩:=(zVw s h).1
 exact ⟨1,2000000,v,σ,e1,e2⟩
def L_35:LT:=(49,S_49) :: L_34
theorem M_35:MO L_35:=zAE K_49 M_34
def PmOk (s:B) (r:zAL×Int×Int):Prop:=zAb r.1∧(r.1.right=true→∀ p∈r.1.procs,∃ L∈cut 10 s,zAS L=[112,114,111,99] :: p.name :: p.locs)∧(r.1.right=true∨r.1=⟨[],[],[]⟩)
theorem pm_ex: ∃ F:B→zAL×Int×Int,∀ s,True→(∃ v σ,t27 (zAR env pu (memL L_35) (txtL []) 1) 2000000 [.str s] .empty=some (v,σ)∧zB2 env σ v ((zRs zAF tInt tInt).enc (F s)))∧PmOk s (F s) :=
 zC8 (P:=fun _:B=>True) (R:=fun s r=>(∃ v σ,t27 (zAR env pu (memL L_35) (txtL []) 1) 2000000 [.str s] .empty=some (v,σ)∧zB2 env σ v ((zRs zAF tInt tInt).enc r))∧PmOk s r) fun s _=>by
  have hS:zAJ env (zAR env pu (memL L_35) (txtL []) 1) 50 S_50:=zAO rfl (Nat.le_refl 1)
  have hW:zAJ env (zAR env pu (memL L_35) (txtL []) 1) 47 S_47:=zAO rfl (Nat.le_refl 1)
  have hV:zAJ env (zAR env pu (memL L_35) (txtL []) 1) 48 S_48:=zAO rfl (Nat.le_refl 1)
  have hT:zAJ env (zAR env pu (memL L_35) (txtL []) 1) 49 S_49:=zAO rfl (Nat.le_refl 1)
  have hM:zAJ env (zAR env pu (memL L_35) (txtL []) 1) 8 S_8:=zAO rfl (Nat.le_refl 1)
  obtain ⟨v,σ,e1,e2⟩:=zIM (call:=zAR env pu (memL L_35) (txtL []) 1) (k:=2000000) (pt:=ptF)
   ⟨fun s τ h=>zAJ.c1 hW (x:=s) h τ,fun l τ h1 h2=>zAJ.f1 hV (x:=l) ⟨h1,h2⟩ (zJn l τ).1 (.inl (zKf l)),fun s n τ h1 h2=>by have:=zAJ.c2 hS (x:=s) (y:=(n:Int)) ⟨h1,by omega,by omega⟩ τ;exact this,fun s τ h=>zAJ.c1 hT (x:=s) h τ,fun s h=>(zVw s h).2⟩
   (fun s c τ h=>zM8 (zAO rfl (Nat.le_refl 1)) s c τ h) (fun v m τ hm hv=>zAJ.f1 hM (x:=m) hm hv (.inr rfl)) s (by omega)
  rcases e2 with ⟨e,a,rfl,he⟩ | ⟨m,h1,h2,h3,h4,h5⟩
  ·exact ⟨(⟨[],[],[]⟩,e,a),⟨_,σ,e1,.inr ⟨(by intro h;cases h),rfl⟩⟩,⟨by show 0<1000000;omega,fun v hv=>(by simp at hv),by show 0<1000000;omega,fun v hv=>(by simp at hv),by show 0<1000000;omega,fun v hv=>(by simp at hv)⟩,fun h=>(by simp [zAL.right] at h),.inr rfl⟩
  ·exact ⟨(m,0,0),⟨_,σ,e1,zH5 h1 h2⟩,h4,fun _=>h5,.inl h3⟩
def pmF:B→zAL×Int×Int:=pm_ex.choose
theorem zSl: ∀ s,True→(∃ v σ,t27 (zAR env pu (memL L_35) (txtL []) 1) 2000000 [.str s] .empty=some (v,σ)∧zB2 env σ v ((zRs zAF tInt tInt).enc (pmF s)))∧PmOk s (pmF s):=pm_ex.choose_spec
def S_27:zAX:=spc1 tStr (zRs zAF tInt tInt) (fun _=>True) pmF
theorem K_27:zAg env 27 S_27:=kc1 (lm:=L_35) (lt:=[]) zAY M_35 zAH zRw fun s _=>by
 obtain ⟨v,σ,e1,e2⟩:=(zSl s trivial).1
 exact ⟨1,2000000,v,σ,e1,e2⟩
def L_36:LT:=(27,S_27) :: L_35
theorem M_36:MO L_36:=zAE K_27 M_35
end
end Go.Proofs.YtglndmmlghpdpaaGreatDoor
namespace Go.Proofs.YtglndmmlghpdpaaGreatDoor
open Go SS
set_option maxRecDepth 100000
noncomputable section
def S_33:zAX:=spc2 tInt tInt tInt (fun _ m=>0<m∧m<1000000000) zCt
theorem K_33:zAg env 33 S_33:=kc2 (lm:=L_36) (lt:=[]) zAY M_36 zAH zTQ fun n m h=>by
 have e:=zT2 (zAR env pu (memL L_36) (txtL []) 1) 2000000 n m h.1 h.2 .empty
 exact ⟨1,2000000,_,_,e,zAW (t:=tInt)⟩
def L_37:LT:=(33,S_33) :: L_36
theorem M_37:MO L_37:=zAE K_33 M_36
def S_51:zAX:=spc1 tInt tStr (fun n=>0≤n∧n≤999) zAU
theorem K_51:zAg env 51 S_51:=kc1 (lm:=L_37) (lt:=[]) zAY M_37 zAH zTg fun n h=>by
 have e:=zLY (zAR env pu (memL L_37) (txtL []) 1) 2000000 n .empty _ (zAJ.c1 (aq L_37 66 S_66 rfl) (x:=n) ⟨by omega,by omega⟩ .empty)
 exact ⟨1,2000000,_,_,e,zAW (t:=tStr)⟩
def L_38:LT:=(51,S_51) :: L_37
theorem M_38:MO L_38:=zAE K_51 M_37
def txtH:List (FuncId×Text):=[(73,t73),(74,t74),(76,t76),(75,t75)]
theorem zW0:zFF env pu (txtL txtH):=zA5 zTH (zA5 zRk (zA5 zQA (zA5 zTA zAH)))
def Cf (k:Nat):SS.Call:=zAR env pu (memL L_38) (txtL txtH) (k+1)
theorem feedC (l:List Int):zU3 Cf l:=by
 have tn: ∀ k vs σ,Cf (k+1) 73 vs σ=t73 (Cf k) (k+1) vs σ:=fun k vs σ=>zBA (by kernel_rfl) (by kernel_rfl) (by kernel_rfl) rfl (k+1) vs σ
 have tg: ∀ k vs σ,Cf (k+1) 74 vs σ=t74 (Cf k) k vs σ:=fun k vs σ=>(zBA (by kernel_rfl) (by kernel_rfl) (by kernel_rfl) rfl (k+1) vs σ).trans rfl
 have ts: ∀ k vs σ,Cf (k+1) 76 vs σ=t76 (Cf k) k vs σ:=fun k vs σ=>(zBA (by kernel_rfl) (by kernel_rfl) (by kernel_rfl) rfl (k+1) vs σ).trans rfl
 have te: ∀ k vs σ,Cf (k+1) 75 vs σ=t75 (Cf k) k vs σ:=fun k vs σ=>(zBA (by kernel_rfl) (by kernel_rfl) (by kernel_rfl) rfl (k+1) vs σ).trans rfl
 have hp: ∀ k (n m:Int) τ,0<m→m<1000000000→Cf k 33 [.int .i64 n,.int .i64 m] τ=some (.int .i64 (zCt n m),τ):=fun k n m τ h1 h2=>zAJ.c2 (show zAJ env (Cf k) 33 S_33 from zAO rfl (Nat.succ_le_succ (Nat.zero_le k))) (x:=n) (y:=m) ⟨h1,h2⟩ τ
 have nx: ∀ (a:Nat) (m:Int) τ,a<1000000→0<m→m<1000→Fd τ 0 l a→∃ (r:Int) (σ:St) (a':Nat),(∀ k,1≤k→Cf k 73 [.ptr 0 0 0,.int .i64 m] τ=some (.int .i64 r,σ))∧0≤r∧r<m∧Fed τ σ 0 l a a'∧a'≤a+1:=fun a m τ ha hm hb hq=>by
  obtain ⟨r,σ,a',h1,h2⟩:=zVC l a 0 (by omega) m hm (by omega) τ hq
  refine ⟨r,σ,a',fun k hk=>?_,h2⟩
  obtain ⟨k,rfl⟩: ∃ k',k=k'+1:=⟨k - 1,by omega⟩
  rw [tn]
  exact h1 _ _ (hp k)
 refine ⟨nx,fun a τ ha hq=>?_,fun a τ ha hq=>?_,fun a τ ha hq=>?_⟩
 ·obtain ⟨s,σ,a',h1,h2⟩:=zQX nx a ha τ hq
  refine ⟨s,σ,a',fun k hk=>?_,h2⟩
  obtain ⟨k,rfl⟩: ∃ k',k=k'+1:=⟨k - 1,by omega⟩
  rw [tg]
  exact h1 k (by omega)
 ·obtain ⟨s,σ,a',h1,h2⟩:=zQO nx a ha τ hq
  refine ⟨s,σ,a',fun k hk=>?_,h2⟩
  obtain ⟨k,rfl⟩: ∃ k',k=k'+1:=⟨k - 1,by omega⟩
  rw [ts]
  exact h1 k (by omega)
 ·obtain ⟨K,s,σ,a',h1,h2,h3,h4,h5⟩:=zPT te nx 2 2 rfl a τ (by omega) hq
  have b1:=bA_le 2 (by omega)
  have b2:=bL_le 2 (by omega)
  exact ⟨K,s,σ,a',h1,h2,by omega,h4,by omega⟩
theorem tr_ex: ∃ F:List Int×Int→B,∀ x:List Int×Int,(0<x.2∧x.2≤3)→(∃ k σ,t52 (Cf k) k [(zAB tInt).enc x.1,.int .i64 x.2] .empty=some (.str (F x),σ))∧zBM (F x)∧(F x).length≤2000 :=
 zC8 (P:=fun x:List Int×Int=>0<x.2∧x.2≤3) (R:=fun x s=>(∃ k σ,t52 (Cf k) k [(zAB tInt).enc x.1,.int .i64 x.2] .empty=some (.str s,σ))∧zBM s∧s.length≤2000) fun x h=>by
  obtain ⟨k,s,σ,e1,e2,e3⟩:=zR3 (feedC x.1) x.2 h.1 h.2
  exact ⟨s,⟨k,σ,e1⟩,e2,e3⟩
def trF:List Int×Int→B:=tr_ex.choose
theorem zVY: ∀ x:List Int×Int,(0<x.2∧x.2≤3)→(∃ k σ,t52 (Cf k) k [(zAB tInt).enc x.1,.int .i64 x.2] .empty=some (.str (trF x),σ))∧zBM (trF x)∧(trF x).length≤2000:=tr_ex.choose_spec
def S_52:zAX:=spc2 (zAB tInt) tInt tStr (fun _ n=>0<n∧n≤3) (fun l n=>trF (l,n))
theorem K_52:zAg env 52 S_52:=kc2 (lm:=L_38) (lt:=txtH) zAY M_38 zW0 zR1 fun l n h=>by
 obtain ⟨k,σ,e⟩:=(zVY (l,n) h).1
 exact ⟨k+1,k,_,σ,e,zAW (t:=tStr)⟩
def L_39:LT:=(52,S_52) :: L_38
theorem M_39:MO L_39:=zAE K_52 M_38
theorem tx_ex: ∃ F:Raw→B,∀ x:Raw,True→(∃ σ,t28 (zAR env pu (memL L_39) (txtL []) 1) 2000000 [tRaw.enc x] .empty=some (.str (F x),σ))∧zBt (F x) 16 :=
 zC8 (P:=fun _:Raw=>True) (R:=fun x s=>(∃ σ,t28 (zAR env pu (memL L_39) (txtL []) 1) 2000000 [tRaw.enc x] .empty=some (.str s,σ))∧zBt s 16) fun x _=>by
  have hP:zAJ env (zAR env pu (memL L_39) (txtL []) 1) 33 S_33:=zAO rfl (Nat.le_refl 1)
  have hD:zAJ env (zAR env pu (memL L_39) (txtL []) 1) 51 S_51:=zAO rfl (Nat.le_refl 1)
  have hT:zAJ env (zAR env pu (memL L_39) (txtL []) 1) 52 S_52:=zAO rfl (Nat.le_refl 1)
  obtain ⟨s,σ,e1,e2⟩:=zT7 (call:=zAR env pu (memL L_39) (txtL []) 1) (k:=2000000) (tr:=fun l n=>trF (l,n)) ⟨fun n m τ h1 h2=>zAJ.c2 hP (x:=n) (y:=m) ⟨h1,h2⟩ τ,fun n τ h1 h2=>zAJ.c1 hD (x:=n) ⟨h1,h2⟩ τ,fun l n τ h1 h2=>zAJ.c2 hT (x:=l) (y:=n) ⟨h1,h2⟩ τ,fun l n h1 h2=>(zVY (l,n) ⟨h1,h2⟩).2⟩ (by omega) x
  exact ⟨s,⟨σ,e1⟩,e2⟩
def txF:Raw→B:=tx_ex.choose
theorem zVM: ∀ x:Raw,True→(∃ σ,t28 (zAR env pu (memL L_39) (txtL []) 1) 2000000 [tRaw.enc x] .empty=some (.str (txF x),σ))∧zBt (txF x) 16:=tx_ex.choose_spec
def S_28:zAX:=spc1 tRaw tStr (fun _=>True) txF
theorem K_28:zAg env 28 S_28:=kc1 (lm:=L_39) (lt:=[]) zAY M_39 zAH zRx fun x _=>by
 obtain ⟨σ,e⟩:=(zVM x trivial).1
 exact ⟨1,2000000,_,σ,e,zAW (t:=tStr)⟩
def L_40:LT:=(28,S_28) :: L_39
theorem M_40:MO L_40:=zAE K_28 M_39
def mkF (x:Raw):zAL:=(pmF (txF x)).1
def S_7:zAX:=spc1 tRaw zAF (fun _=>True) mkF
theorem K_7:zAg env 7 S_7:=kc1 (lm:=L_40) (lt:=[]) zAY M_40 zAH zUY fun x _=>by
 obtain ⟨σ,e⟩:=zRo (call:=zAR env pu (memL L_40) (txtL []) 1) (k:=2000000) txF (fun x τ=>zAJ.c1 (aq L_40 28 S_28 rfl) (x:=x) trivial τ) pmF (fun x τ=>zAJ.c1 (aq L_40 27 S_27 rfl) (x:=txF x) trivial τ) x
 exact ⟨1,2000000,_,σ,e,zAW (t:=zAF)⟩
def L_41:LT:=(7,S_7) :: L_40
theorem M_41:MO L_41:=zAE K_7 M_40
theorem hs_ex: ∃ F:zAL×Int→zCD,∀ x:zAL×Int,(zAb x.1∧x.1.right=true)→(∃ v σ,t9 (zAR env pu (memL L_41) (txtL []) 1) 2000000 [zAF.enc x.1,.int .i64 x.2] .empty=some (v,σ)∧zB2 env σ v (zA3.enc (F x)))∧x.1.fits (F x)=true :=
 zC8 (P:=fun x:zAL×Int=>zAb x.1∧x.1.right=true) (R:=fun x s=>(∃ v σ,t9 (zAR env pu (memL L_41) (txtL []) 1) 2000000 [zAF.enc x.1,.int .i64 x.2] .empty=some (v,σ)∧zB2 env σ v (zA3.enc s))∧x.1.fits s=true) fun x h=>by
  have hP:zAJ env (zAR env pu (memL L_41) (txtL []) 1) 33 S_33:=zAO rfl (Nat.le_refl 1)
  obtain ⟨r1,r2,_⟩:=zCa h.2
  have l1:=h.1.procs
  have l2:=h.1.vars
  obtain ⟨v,σ,s,e1,e2,e3,e4⟩:=zJX (call:=zAR env pu (memL L_41) (txtL []) 1) (k:=2000000) (fun n m τ h1 h2=>zAJ.c2 hP (x:=n) (y:=m) ⟨h1,h2⟩ τ) x.1 x.2 h.1 (fun p hp=>(r2 p hp).2.1) (fun v hv=>⟨(r1 v hv).2.1,Int.le_trans (r1 v hv).2.2.1 (r1 v hv).2.2.2.1,(r1 v hv).2.2.2.2⟩) (by omega) (by omega)
  exact ⟨s,⟨v,σ,e1,zH5 e2 e3⟩,e4⟩
def hsF:zAL×Int→zCD:=hs_ex.choose
theorem zVl: ∀ x:zAL×Int,(zAb x.1∧x.1.right=true)→(∃ v σ,t9 (zAR env pu (memL L_41) (txtL []) 1) 2000000 [zAF.enc x.1,.int .i64 x.2] .empty=some (v,σ)∧zB2 env σ v (zA3.enc (hsF x)))∧x.1.fits (hsF x)=true:=hs_ex.choose_spec
def S_9:zAX:=spc2 zAF tInt zA3 (fun m _=>zAb m∧m.right=true) (fun m n=>hsF (m,n))
theorem K_9:zAg env 9 S_9:=kc2 (lm:=L_41) (lt:=[]) zAY M_41 zAH zUw fun m n h=>by
 obtain ⟨v,σ,e1,e2⟩:=(zVl (m,n) h).1
 exact ⟨1,2000000,v,σ,e1,e2⟩
def L_42:LT:=(9,S_9) :: L_41
theorem M_42:MO L_42:=zAE K_9 M_41
end
end Go.Proofs.YtglndmmlghpdpaaGreatDoor
namespace Go.Proofs.YtglndmmlghpdpaaGreatDoor
open Go Go.Proofs Go.Shelf Go.RowKit
set_option maxRecDepth 100000
def rhoJ:Go.Shelf.Ren:={ f:=fun x=>match x with | 156=>35 | 165=>61 | 166=>62 | 169=>63 | 240=>79 | 241=>80 | 276=>108 | 277=>109 | n=>n,t:=fun x=>match x with | 31=>37 | 9=>9 | 3=>3 | 4=>4 | 0=>0 | 20=>20 | 72=>104 | 76=>81 | 70=>101 | 37=>102 | 75=>80 | 127=>125 | 164=>157 | 5=>5 | 80=>106 | n=>n,g:=fun x=>have n:=x;n }
theorem laysJ:Lays.n156 Tryz.prog rhoJ:={ mixed:=Eq.refl true,f156:=Eq.trans Tryz.func35 (congrArg some (Eq.refl (Body.n156 rhoJ))),f165:=Eq.trans Tryz.func61 (congrArg some (Eq.refl (Body.n165 rhoJ))),f166:=Eq.trans Tryz.func62 (congrArg some (Eq.refl (Body.n166 rhoJ))),f169:=Eq.trans Tryz.func63 (congrArg some (Eq.refl (Body.n169 rhoJ))),f240:=Eq.trans Tryz.func79 (congrArg some (Eq.refl (Body.n240 rhoJ))),f241:=Eq.trans Tryz.func80 (congrArg some (Eq.refl (Body.n241 rhoJ))),f276:=Eq.trans Tryz.func108 (congrArg some (Eq.refl (Body.n276 rhoJ))),f277:=Eq.trans Tryz.func109 (congrArg some (Eq.refl (Body.n277 rhoJ))),t0:=Tryz.underlying0,a0:=Tryz.isAgg0,z0:=Tryz.sizeOf0,v0:=Tryz.zeroValue0,t3:=Tryz.underlying3,a3:=Tryz.isAgg3,z3:=Tryz.sizeOf3,v3:=Tryz.zeroValue3,t4:=Tryz.underlying4,a4:=Tryz.isAgg4,z4:=Tryz.sizeOf4,v4:=Tryz.zeroValue4,t9:=Tryz.underlying9,a9:=Tryz.isAgg9,z9:=Tryz.sizeOf9,v9:=Tryz.zeroValue9,t20:=Tryz.underlying20,a20:=Tryz.isAgg20,z20:=Tryz.sizeOf20,v20:=Tryz.zeroValue20,t31:=Tryz.underlying37,a31:=Tryz.isAgg37,z31:=Tryz.sizeOf37,v31:=Tryz.zeroValue37,t37:=Tryz.underlying102,a37:=Tryz.isAgg102,z37:=Tryz.sizeOf102,v37:=Tryz.zeroValue102,t70:=Tryz.underlying101,a70:=Tryz.isAgg101,z70:=Tryz.sizeOf101,v70:=Tryz.zeroValue101,t72:=Tryz.underlying104,a72:=Tryz.isAgg104,z72:=Tryz.sizeOf104,v72:=Tryz.zeroValue104,t75:=Tryz.underlying80,a75:=Tryz.isAgg80,z75:=Tryz.sizeOf80,v75:=Tryz.zeroValue80,t76:=Tryz.underlying81,a76:=Tryz.isAgg81,z76:=Tryz.sizeOf81,v76:=Tryz.zeroValue81,t127:=Tryz.underlying125,a127:=Tryz.isAgg125,z127:=Tryz.sizeOf125,v127:=Tryz.zeroValue125,t164:=Tryz.underlying157,a164:=Tryz.isAgg157,z164:=Tryz.sizeOf157,v164:=Tryz.zeroValue157 }
theorem zVV:Builder.Extra Tryz.prog rhoJ where
 sizeBuilder:=by kernel_rfl
 liesBuilder:=by kernel_rfl
 t5:=Tryz.underlying5
 a5:=Tryz.isAgg5
 z5:=Tryz.sizeOf5
 v5:=Tryz.zeroValue5
 infoByte:=by kernel_rfl
 cellsByte:=by kernel_rfl
 sizeByte:=by kernel_rfl
 neB5:=by decide
def rhoS:Go.Shelf.Ren:={ f:=fun x=>match x with | 171=>34 | 243=>60 | 246=>78 | 283=>104 | 284=>105 | 285=>106 | 286=>107 | 129=>127 | 317=>126 | 318=>128 | 319=>129 | 320=>130 | 337=>148 | 338=>149 | n=>n,t:=fun x=>match x with | 3=>3 | 9=>9 | 2=>2 | 4=>4 | 171=>152 | 0=>0 | 53=>131 | 37=>102 | 5=>5 | 173=>155 | 212=>183 | 51=>184 | 20=>20 | 213=>185 | 46=>170 | 232=>203 | 233=>204 | n=>n,g:=fun x=>match x with | 17=>5 | 18=>9 | 19=>10 | n=>n }
theorem laysS:LaysM.n171 Tryz.prog rhoS:={ mixed:=Eq.refl true,f129:=Eq.trans Tryz.func127 (congrArg some (Eq.refl (Body.n129 rhoS))),f171:=Eq.trans Tryz.func34 (congrArg some (Eq.refl (Body.n171 rhoS))),f243:=Eq.trans Tryz.func60 (congrArg some (Eq.refl (Body.n243 rhoS))),f246:=Eq.trans Tryz.func78 (congrArg some (Eq.refl (Body.n246 rhoS))),f283:=Eq.trans Tryz.func104 (congrArg some (Eq.refl (Body.n283 rhoS))),f284:=Eq.trans Tryz.func105 (congrArg some (Eq.refl (Body.n284 rhoS))),f285:=Eq.trans Tryz.func106 (congrArg some (Eq.refl (Body.n285 rhoS))),f286:=Eq.trans Tryz.func107 (congrArg some (Eq.refl (Body.n286 rhoS))),f317:=Eq.trans Tryz.func126 (congrArg some (Eq.refl (Body.n317 rhoS))),f318:=Eq.trans Tryz.func128 (congrArg some (Eq.refl (Body.n318 rhoS))),f319:=Eq.trans Tryz.func129 (congrArg some (Eq.refl (Body.n319 rhoS))),f320:=Eq.trans Tryz.func130 (congrArg some (Eq.refl (Body.n320 rhoS))),f337:=Eq.trans Tryz.func148 (congrArg some (Eq.refl (Body.n337 rhoS))),f338:=Eq.trans Tryz.func149 (congrArg some (Eq.refl (Body.n338 rhoS))),t0:=Tryz.underlying0,a0:=Tryz.isAgg0,z0:=Tryz.sizeOf0,v0:=Tryz.zeroValue0,t2:=Tryz.underlying2,a2:=Tryz.isAgg2,z2:=Tryz.sizeOf2,v2:=Tryz.zeroValue2,t3:=Tryz.underlying3,a3:=Tryz.isAgg3,z3:=Tryz.sizeOf3,v3:=Tryz.zeroValue3,t4:=Tryz.underlying4,a4:=Tryz.isAgg4,z4:=Tryz.sizeOf4,v4:=Tryz.zeroValue4,t5:=Tryz.underlying5,a5:=Tryz.isAgg5,z5:=Tryz.sizeOf5,v5:=Tryz.zeroValue5,t9:=Tryz.underlying9,a9:=Tryz.isAgg9,z9:=Tryz.sizeOf9,v9:=Tryz.zeroValue9,t20:=Tryz.underlying20,a20:=Tryz.isAgg20,z20:=Tryz.sizeOf20,v20:=Tryz.zeroValue20,t37:=Tryz.underlying102,a37:=Tryz.isAgg102,z37:=Tryz.sizeOf102,v37:=Tryz.zeroValue102,t46:=Tryz.underlying170,a46:=Tryz.isAgg170,z46:=Tryz.sizeOf170,v46:=Tryz.zeroValue170,t51:=Tryz.underlying184,a51:=Tryz.isAgg184,z51:=Tryz.sizeOf184,v51:=Tryz.zeroValue184,t53:=Tryz.underlying131,a53:=Tryz.isAgg131,z53:=Tryz.sizeOf131,v53:=Tryz.zeroValue131,t171:=Tryz.underlying152,a171:=Tryz.isAgg152,z171:=Tryz.sizeOf152,v171:=Tryz.zeroValue152,t173:=Tryz.underlying155,a173:=Tryz.isAgg155,z173:=Tryz.sizeOf155,v173:=Tryz.zeroValue155,t212:=Tryz.underlying183,a212:=Tryz.isAgg183,z212:=Tryz.sizeOf183,v212:=Tryz.zeroValue183,t213:=Tryz.underlying185,a213:=Tryz.isAgg185,z213:=Tryz.sizeOf185,t232:=Tryz.underlying203,a232:=Tryz.isAgg203,z232:=Tryz.sizeOf203,v232:=Tryz.zeroValue203,t233:=Tryz.underlying204,a233:=Tryz.isAgg204,z233:=Tryz.sizeOf204,v233:=Tryz.zeroValue204,g17:=by kernel_rfl,g18:=by kernel_rfl,g19:=by kernel_rfl,i0:=by kernel_rfl,i2:=by kernel_rfl,i3:=by kernel_rfl,i4:=by kernel_rfl,i5:=by kernel_rfl,i9:=by kernel_rfl,i20:=by kernel_rfl,i37:=by kernel_rfl,i46:=by kernel_rfl,i51:=by kernel_rfl,i53:=by kernel_rfl,i171:=by kernel_rfl,i173:=by kernel_rfl,i212:=by kernel_rfl,i232:=by kernel_rfl,i233:=by kernel_rfl,m17:=by kernel_rfl,m18:=by kernel_rfl,m19:=by kernel_rfl }
theorem zLj (n:Nat):SS.zAv n=Lib.decDigits n:=by
 induction n using Nat.strongRecOn with
 | _ n ih =>
  unfold SS.zAv
  rw [Lib.decDigits]
  by_cases h:n<10
  ·rw [if_pos h,dif_pos h]
  ·rw [if_neg h,dif_neg h,ih (n / 10) (by omega)]
theorem zLy (n:Int):SS.zAU n=Lib.itoa n:=by
 unfold SS.zAU Lib.itoa
 by_cases h:n<0
 ·rw [if_pos h,if_pos h,zLj,show (-n).toNat=n.natAbs by omega]
 ·rw [if_neg h,if_neg h,zLj]
theorem zOo (l:List SS.B) (sep:SS.B):Lib.join l sep=SS.zD3 sep l:=by
 induction l with
 | nil=>rfl
 | cons a r ih =>
  cases r with
  | nil=>exact Lib.join_one a sep
  | cons b r =>
   show Lib.join (a :: b :: r) sep=a++sep++SS.zD3 sep (b :: r)
   rw [←ih,Lib.join_cons,Lib.join_cons]
   simp [Lib.joinTail]
theorem zWB {w:World} (h:SS.GOk env (SS.zDY w)):Lib.TabIs Tryz.prog w "internal/strconv.uint64pow10" .u64 Lib.pow10Tab:=by
 have hg:env.G 5=some (Lib.pow10Tab.map (SS.V.int .u64)):=by kernel_rfl
 obtain ⟨cs,t,fr,h1,h2⟩:=h.1 5 _ hg
 have h2:=h2 SS.zCT
 have key: ∀ (l:List Int) (l':List Value),SS.VRL SS.zCT (SS.zDY w) (l.map (SS.V.int .u64)) l'→l'=l.map fun z=>Value.int .u64 z:=by
  intro l
  induction l with
  | nil=>intro l' h;cases h;rfl
  | cons a l ih =>
   intro l' h
   cases h with
   | cons _ _ _ l2 h3 h4 =>
    cases h3
    rw [List.map_cons,←ih l2 h4]
 have h3:=key _ _ h2
 unfold Lib.TabIs World.var?
 have hn:Tryz.prog.globalNamed "internal/strconv.uint64pow10" = some 5:=by kernel_rfl
 rw [hn]
 have h1:w.heap[5]?=some (.cells cs t fr):=h1
 simp only [Option.bind_some,h1]
 rw [←h3]
theorem k_itoa:SS.zAg env 34 (SS.spc1 SS.tInt SS.tStr (fun n=>-999≤n∧n≤999) SS.zAU):=by
 refine SS.zG9 (c:=SS.zIV Tryz.f34) Tryz.func34 (by kernel_rfl) (by kernel_rfl) fun ws u hg=>?_
 obtain ⟨x,y,h1,rfl,rfl⟩:=SS.zOE hg
 obtain ⟨⟨p1,p2⟩,rfl⟩:=SS.zEM h1
 refine ⟨rfl,fun w vs' hgo hv=>?_⟩
 cases hv with
 | cons _ v' _ _ h2 h3 =>
  cases h2
  cases h3
  refine (Any.strconv_Itoa laysS x (by omega) (by omega) w (zWB hgo)).mono fun e w' he=>?_
  obtain ⟨rfl,k,os,rfl⟩:=he
  refine ⟨_,rfl,?_,?_⟩
  ·rw [←zLy];exact .str _
  ·exact Lib.below_grow _ w (Nat.le_refl _) k os
theorem zLF {M:SS.Mem}: ∀ (l:List SS.B) (r:List Value),SS.zBW SS.zCT M 1 (l.map SS.V.str) r→∀ (j:Nat) (x:ByteArray),(l.map fun s=>(⟨s.toArray⟩:ByteArray))[j]?=some x→r[j]?=some (Value.string x)
 | [],r,_,j,x,h=>by simp at h
 | s :: l,r,hr,j,x,h=>by
  cases hr with
  | cons _ _ _ cs r2 h1 h2 h3 =>
   have h1:SS.VRL SS.zCT M [SS.V.str s] cs:=h1
   cases h1 with
   | cons _ v' _ cs' g1 g2 =>
    cases g1
    cases g2
    cases j with
    | zero =>
     simp only [List.map_cons,List.getElem?_cons_zero,Option.some.injEq] at h
     subst h
     rfl
    | succ j =>
     simp only [List.map_cons,List.getElem?_cons_succ] at h
     have:=zLF l r2 h3 j x h
     simpa using this
theorem k_join:SS.zAg env 35 (SS.spc2 (SS.zAB SS.tStr) SS.tStr SS.tStr (fun l sep=>l.length≤7∧(∀ s∈l,s.length≤8)∧sep=[32]) (fun l _=>SS.zD3 [32] l)):=by
 refine SS.zG9 (c:=SS.zIV Tryz.f35) Tryz.func35 (by kernel_rfl) (by kernel_rfl) fun ws u hg=>?_
 obtain ⟨l,sep,z,h1,rfl,rfl⟩:=SS.zNt hg
 obtain ⟨⟨p1,p2,p3⟩,rfl⟩:=SS.zEM h1
 have p3:sep=[32]:=p3
 subst p3
 refine ⟨rfl,fun w vs' hgo hv=>?_⟩
 cases hv with
 | cons _ v' _ vs2 h2 h3 =>
  cases h3 with
  | cons _ v2 _ vs3 h4 h5 =>
   cases h4
   cases h5
   match l,p1,p2,h2 with
   | [],_,_,h2 =>
    have h2:SS.VR SS.zCT (SS.zDY w) .emp v':=h2
    cases h2 with
    | emp a cap _ =>
     refine (Any.strings_Join_none laysJ zVV a cap _ w).mono fun e w' he=>?_
     obtain ⟨rfl,rfl⟩:=he
     exact ⟨_,rfl,.str _,Below.refl _ _⟩
   | s :: r,p1,p2,h2 =>
    have h2:SS.VR SS.zCT (SS.zDY w) (.lst ((s :: r).map SS.V.str) false) v':=h2
    cases h2 with
    | lst _ _ _ b o cap cs t fr g1 g2 g3 g4 =>
     have g1:w.heap[b]?=some (.cells cs t fr):=g1
     have hlen:(r.map SS.V.str).length+1=((s :: r).map fun s=>(⟨s.toArray⟩:ByteArray)).length:=by simp
     have hrow:=zLF (s :: r) _ g2
     have hmap:((s :: r).map fun s=>(⟨s.toArray⟩:ByteArray)).map (·.data.toList)=s :: r:=by
      rw [List.map_map]
      have:((fun x:ByteArray=>x.data.toList)∘fun s:SS.B=>(⟨s.toArray⟩:ByteArray))=id:=by funext x;rfl
      rw [this,List.map_id]
     have hj:Lib.join (((s :: r).map fun s=>(⟨s.toArray⟩:ByteArray)).map (·.data.toList)) (⟨[32].toArray⟩:ByteArray).data.toList=SS.zD3 [32] (s :: r):=by
      rw [hmap];exact zOo _ _
     have hjl:(SS.zD3 [32] (s :: r)).length≤1000:=by
      have jl: ∀ l:List SS.B,(∀ a∈l,a.length≤8)→(SS.zD3 [32] l).length≤l.length*9:=by
       intro l
       induction l with
       | nil=>intro _;simp [SS.zD3]
       | cons a q ih =>
        intro h
        have i1:=h a (by simp)
        have i2:=ih fun x hx=>h x (by simp [hx])
        cases q with
        | nil=>show a.length≤_;simp;omega
        | cons b q =>
         show (a++[32]++SS.zD3 [32] (b :: q)).length≤_
         have e1:(a :: b :: q).length*9=(b :: q).length*9+9:=by rw [List.length_cons (a:=a),Nat.add_mul]
         have e2:([32]:SS.B).length=1:=rfl
         rw [List.length_append,List.length_append,e1,e2]
         omega
      have:=jl (s :: r) p2
      have p1:(s :: r).length≤7:=p1
      omega
     rw [hlen]
     refine (Any.strings_Join laysJ zVV b o cap _ _ w (fun j x hx=>?_) (Array.getElem?_eq_some_iff.1 g1).1 ?_ ?_ ?_).mono fun e w' he=>?_
     ·have:=hrow j x hx
      rw [List.getElem?_drop] at this
      unfold World.cell?
      simp only [g1]
      simpa using this
     ·have p1:(s :: r).length≤7:=p1
      rw [List.length_map];omega
     ·rw [←hlen];exact g3
     ·rw [hj];omega
     ·obtain ⟨rfl,hb⟩:=he
      refine ⟨_,rfl,?_,hb⟩
      rw [hj]
      exact .str _
end Go.Proofs.YtglndmmlghpdpaaGreatDoor
namespace Go.Proofs.YtglndmmlghpdpaaGreatDoor
open Go SS
set_option maxRecDepth 100000
noncomputable section
def S_136:zAX:=spc1 tU8 zAw (fun _=>True) SS.zCO
theorem K_136:zAg env 136 S_136:=kc1 (lm:=L_42) (lt:=[]) zAY M_42 zAH zOy fun c _=>zA4 (k:=1) (k':=1) ⟨_,zOS c _⟩
def L_43:LT:=(136,S_136) :: L_42
theorem M_43:MO L_43:=zAE K_136 M_42
def S_150:zAX:=spc1 tU8 zAw (fun _=>True) SS.zBV
theorem K_150:zAg env 150 S_150:=kc1 (lm:=L_43) (lt:=[]) zAY M_43 zAH zPu fun c _=>zA4 (k:=1) (k':=1) ⟨_,zPk c _⟩
def L_44:LT:=(150,S_150) :: L_43
theorem M_44:MO L_44:=zAE K_150 M_43
def S_138:zAX:=spc1 tU8 zAw (fun _=>True) zBg
theorem K_138:zAg env 138 S_138:=kc1 (lm:=L_44) (lt:=[]) zAY M_44 zAH zOi fun c _=>zA4 (k:=1) (k':=1) ⟨_,zME (fun c τ=>zAJ.c1 (aq L_44 136 S_136 rfl) (x:=c) trivial τ) (fun c τ=>zAJ.c1 (aq L_44 150 S_150 rfl) (x:=c) trivial τ) c _⟩
def L_45:LT:=(138,S_138) :: L_44
theorem M_45:MO L_45:=zAE K_138 M_44
theorem zSy:zFF env pu (txtL [(137,t137)]):=zA5 zI7 zAH
theorem zWw (k:Nat) (hk:2000000<k) (s:B) (τ:St) (hs:s.length<1000000):zAR env pu (memL L_45) (txtL [(137,t137)]) (k+1) 137 [.str s,.fn 138 []] τ=some (.str (s.takeWhile fun c=>zBg (by8 c)),τ):=by
 rw [zBA (t:=t137) (by kernel_rfl) (by kernel_rfl) (by kernel_rfl) rfl]
 exact zWa (fun c τ=>zAJ.c1 (show zAJ env (zAR env pu (memL L_45) (txtL [(137,t137)]) k) 138 S_138 from zAO rfl (by omega)) (x:=c) trivial τ) s hs (by omega) τ
def S_114:zAX:=spc1 tStr zAw (fun s=>s.length<1000000) isWord
theorem K_114:zAg env 114 S_114:=kc1 (lm:=L_45) (lt:=[(137,t137)]) zAY M_45 zSy zOO fun s h=>by
 have e:=zNG (call:=zAR env pu (memL L_45) (txtL [(137,t137)]) (2000001+1)) (k:=2000000) (fun c τ=>zAJ.c1 (show zAJ env (zAR env pu (memL L_45) (txtL [(137,t137)]) (2000001+1)) 136 S_136 from zAO rfl (by omega)) (x:=c) trivial τ) (fun s τ h=>zWw 2000001 (by omega) s τ h) s h .empty
 exact ⟨2000001+1,2000000,_,_,e,zAW (t:=zAw)⟩
def L_46:LT:=(114,S_114) :: L_45
theorem M_46:MO L_46:=zAE K_114 M_45
def S_134:zAX:=spc1 tInt tInt (fun _=>True) SS.arity
theorem K_134:zAg env 134 S_134:=kc1 (lm:=L_46) (lt:=[]) zAY M_46 zAH zOe fun n _=>zA4 (k:=1) (k':=1) ⟨_,zLX n _⟩
def L_47:LT:=(134,S_134) :: L_46
theorem M_47:MO L_47:=zAE K_134 M_46
def S_135:zAX:=spc1 zAZ zAw (fun t=>t.name.length<1000000∧t.loc.length<1000000) Term.may
theorem K_135:zAg env 135 S_135:=kc1 (lm:=L_47) (lt:=[]) zAY M_47 zAH zOV fun t h=>by
 obtain ⟨σ,e⟩:=zWl (call:=zAR env pu (memL L_47) (txtL []) 1) (k:=2000000) (fun s τ h=>zAJ.c1 (aq L_47 114 S_114 rfl) (x:=s) h τ) (fun n τ=>zAJ.c1 (aq L_47 134 S_134 rfl) (x:=n) trivial τ) t h
 exact ⟨1,2000000,_,σ,e,zAW (t:=zAw)⟩
def L_48:LT:=(135,S_135) :: L_47
theorem M_48:MO L_48:=zAE K_135 M_47
def S_113:zAX:=spc1 (zAB zAZ) zAw zBX zBY
theorem K_113:zAg env 113 S_113:=kc1 (lm:=L_48) (lt:=[]) zAY M_48 zAH zPD fun l h=>by
 have hl:=h.1
 obtain ⟨σ,e⟩:=zOn (call:=zAR env pu (memL L_48) (txtL []) 1) (k:=2000000) (fun t τ h1 h2=>zAJ.c1 (aq L_48 135 S_135 rfl) (x:=t) ⟨h1,h2⟩ τ) (fun n τ=>zAJ.c1 (aq L_48 134 S_134 rfl) (x:=n) trivial τ) l h (by omega) .empty
 exact ⟨1,2000000,_,σ,e,zAW (t:=zAw)⟩
def L_49:LT:=(113,S_113) :: L_48
theorem M_49:MO L_49:=zAE K_113 M_48
def S_43:zAX:=spc2 (zAB tStr) tStr tInt (fun l _=>l.length<1000000) (fun l s=>find s l)
theorem K_43:zAg env 43 S_43:=kc2 (lm:=L_49) (lt:=[]) zAY M_49 zAH zSB fun l s h=>by
 have e:=zPW (call:=zAR env pu (memL L_49) (txtL []) 1) (k:=2000000) l h (by omega) s .empty
 exact ⟨1,2000000,_,_,e,zAW (t:=tInt)⟩
def L_50:LT:=(43,S_43) :: L_49
theorem M_50:MO L_50:=zAE K_43 M_49
def S_85:zAX:=spc2 (zAB tStr) tStr zAw (fun l _=>l.length<1000000) (fun l s=>decide (0≤find s l))
theorem K_85:zAg env 85 S_85:=kc2 (lm:=L_50) (lt:=[]) zAY M_50 zAH zSL fun l s h=>by
 have e:=zJ1 (call:=zAR env pu (memL L_50) (txtL []) 1) (k:=2000000) (fun l s τ h=>zAJ.c2 (aq L_50 43 S_43 rfl) (x:=l) (y:=s) h τ) l h s .empty
 exact ⟨1,2000000,_,_,e,zAW (t:=zAw)⟩
def L_51:LT:=(85,S_85) :: L_50
theorem M_51:MO L_51:=zAE K_85 M_50
def txtI:List (FuncId×Text):=[(110,t110),(82,t82),(132,t132),(131,t131),(83,t83),(133,t133)]
theorem zMt:zFF env pu (txtL txtI):=zA5 zPP (zA5 zTF (zA5 zOm (zA5 zOv (zA5 zSc (zA5 zPo zAH)))))
theorem zWp {lm:List (FuncId×zAX)} (h: ∀ f,f=110∨f=82∨f=132∨f=131∨f=83∨f=133→memL lm f=none):zT4 (zAR env pu (memL lm) (txtL txtI) (2000000+1+1+1)) where
 idxVar l b s σ hl hn:=by
  rw [zBA (t:=t110) (h _ (by simp)) (by kernel_rfl) (by kernel_rfl) rfl]
  refine zI4 _ (fun v b s σ hn=>?_) l hl (by omega) b s σ hn
  rw [zBA (t:=t131) (h _ (by simp)) (by kernel_rfl) (by kernel_rfl) rfl]
  exact zQb v b s σ hn
 hasVar l b s σ hl hn:=by
  rw [zBA (t:=t82) (h _ (by simp)) (by kernel_rfl) (by kernel_rfl) rfl]
  have key: ∃ σ',zAR env pu (memL lm) (txtL txtI) (2000000+1+1) 110 [(zAB tVar).enc l,.fn 83 [.ptr b 0 0]] σ=some (.int .i64 (find s (l.map (·.name))),σ')∧Ext1 σ σ':=by
   rw [zBA (t:=t110) (h _ (by simp)) (by kernel_rfl) (by kernel_rfl) rfl]
   refine zI4 _ (fun v b s σ hn=>?_) l hl (by omega) b s σ hn
   rw [zBA (t:=t83) (h _ (by simp)) (by kernel_rfl) (by kernel_rfl) rfl]
   exact zPy v b s σ hn
  obtain ⟨σ',e1,e2⟩:=key
  exact ⟨σ',zHR e1,e2⟩
 idxProc l b s σ hl hn:=by
  rw [zBA (t:=t132) (h _ (by simp)) (by kernel_rfl) (by kernel_rfl) rfl]
  refine zM0 _ (fun v b s σ hn=>?_) l hl (by omega) b s σ hn
  rw [zBA (t:=t133) (h _ (by simp)) (by kernel_rfl) (by kernel_rfl) rfl]
  exact zPr v b s σ hn
theorem noneI: ∀ f,f=110∨f=82∨f=132∨f=131∨f=83∨f=133→memL L_51 f=none:=by
 rintro f (rfl | rfl | rfl | rfl | rfl | rfl)<;>kernel_rfl
def S_111:zAX:=spc2 zAF tStr tInt (fun m _=>zAb m) (fun m s=>m.variable s)
theorem K_111:zAg env 111 S_111:=kc2 (lm:=L_51) (lt:=txtI) zAY M_51 zMt zPj fun m s h=>by
 obtain ⟨σ,e⟩:=zJu (zWp noneI) (k:=2000000) m s h
 exact ⟨_,2000000,_,σ,e,zAW (t:=tInt)⟩
def L_52:LT:=(111,S_111) :: L_51
theorem M_52:MO L_52:=zAE K_111 M_51
theorem noneI2: ∀ f,f=110∨f=82∨f=132∨f=131∨f=83∨f=133→memL L_52 f=none:=by
 rintro f (rfl | rfl | rfl | rfl | rfl | rfl)<;>kernel_rfl
def S_112:zAX:=spc3 zAF tStr tStr (zEk tInt tInt) (fun m _ _=>zAb m) (fun m s q=>(m.process s,m.place (m.process s) q))
theorem K_112:zAg env 112 S_112:=kc3 (lm:=L_52) (lt:=txtI) zAY M_52 zMt zPX fun m s q h=>by
 obtain ⟨σ,e⟩:=zPd (zWp noneI2) (k:=2000000) (fun l s τ h=>zAJ.c2 (show zAJ env (zAR env pu (memL L_52) (txtL txtI) (2000000+1+1+1)) 43 S_43 from zAO rfl (by omega)) (x:=l) (y:=s) h τ) m s q h
 exact ⟨_,2000000,_,σ,e,zAW (t:=zEk tInt tInt) (x:=(m.process s,m.place (m.process s) q))⟩
def L_53:LT:=(112,S_112) :: L_52
theorem M_53:MO L_53:=zAE K_112 M_52
def S_84:zAX:=spc2 zAF (zAB zAZ) zAw (fun m l=>zAb m∧zBX l) zAL.known
theorem K_84:zAg env 84 S_84:=kc2 (lm:=L_53) (lt:=[]) zAY M_53 zAH zQH fun m l h=>by
 have hl:=h.2.1
 obtain ⟨σ,e⟩:=zPq (call:=zAR env pu (memL L_53) (txtL []) 1) (k:=2000000) (fun m s τ h=>zAJ.c2 (aq L_53 111 S_111 rfl) (x:=m) (y:=s) h τ) (fun m s q τ h=>zAJ.c3 (aq L_53 112 S_112 rfl) (x:=m) (y:=s) (z:=q) h τ) (fun l τ h=>zAJ.c1 (aq L_53 113 S_113 rfl) (x:=l) h τ) m l h.1 h.2 (by omega)
 exact ⟨1,2000000,_,σ,e,zAW (t:=zAw)⟩
def L_54:LT:=(84,S_84) :: L_53
theorem M_54:MO L_54:=zAE K_84 M_53
def S_86:zAX:=spc1 tStr zAw (fun s=>s.length<1000000) zDK
theorem K_86:zAg env 86 S_86:=kc1 (lm:=L_54) (lt:=[]) zAY M_54 zAH zRU fun s h=>by
 have e:=zUA (call:=zAR env pu (memL L_54) (txtL []) 1) (k:=2000000) (fun s τ h=>zAJ.c1 (aq L_54 114 S_114 rfl) (x:=s) h τ) s h .empty
 exact ⟨1,2000000,_,_,e,zAW (t:=zAw)⟩
def L_55:LT:=(86,S_86) :: L_54
theorem M_55:MO L_55:=zAE K_86 M_54
def S_87:zAX:=spc1 tVar zAw (fun _=>True) bnd
theorem K_87:zAg env 87 S_87:=kc1 (lm:=L_55) (lt:=[]) zAY M_55 zAH zSu fun v _=>by
 obtain ⟨σ,e⟩:=zMV (zAR env pu (memL L_55) (txtL []) 1) 2000000 v
 exact ⟨1,2000000,_,σ,e,zAW (t:=zAw)⟩
def L_56:LT:=(87,S_87) :: L_55
theorem M_56:MO L_56:=zAE K_87 M_55
def S_81:zAX:=spc2 zAF tStr (zAB tStr) (fun m _=>zAb m) zAL.zW3
theorem K_81:zAg env 81 S_81:=kc2 (lm:=L_56) (lt:=[]) zAY M_56 zAH zQ3 fun m s h=>by
 have hl:=h.procs
 obtain ⟨v,σ,e1,e2⟩:=zOg (call:=zAR env pu (memL L_56) (txtL []) 1) (k:=2000000) m s h (by omega)
 exact ⟨1,2000000,v,σ,e1,e2⟩
def L_57:LT:=(81,S_81) :: L_56
theorem M_57:MO L_57:=zAE K_81 M_56
def S_88:zAX:=spc1 (zAB tStr) zAw (fun l=>l.length<1000000∧∀ s∈l,s.length<1000000) zDt
theorem K_88:zAg env 88 S_88:=kc1 (lm:=L_57) (lt:=[]) zAY M_57 zAH zTW fun l h=>by
 have hl:=h.1
 obtain ⟨σ,e⟩:=zSr (call:=zAR env pu (memL L_57) (txtL []) 1) (k:=2000000) (fun s τ h=>zAJ.c1 (aq L_57 114 S_114 rfl) (x:=s) h τ) l h.1 h.2 (by omega)
 exact ⟨1,2000000,_,σ,e,zAW (t:=zAw)⟩
def L_58:LT:=(88,S_88) :: L_57
theorem M_58:MO L_58:=zAE K_88 M_57
def S_65:zAX:=spc1 zAF zAw zAb zF6
theorem K_65:zAg env 65 S_65:=kc1 (lm:=L_58) (lt:=[]) zAY M_58 zAH zQI fun m h=>by
 have l1:=h.vars;have l2:=h.procs
 have hB:zAJ env (zAR env pu (memL L_58) (txtL []) 1) 87 S_87:=zAO rfl (Nat.le_refl 1)
 have hN:zAJ env (zAR env pu (memL L_58) (txtL []) 1) 88 S_88:=zAO rfl (Nat.le_refl 1)
 obtain ⟨σ,e⟩:=zRG (call:=zAR env pu (memL L_58) (txtL []) 1) (k:=2000000) ⟨fun v τ=>zAJ.c1 hB (x:=v) trivial τ,fun v l τ hv h1 h2=>zAJ.f1 hN (x:=l) ⟨h1,h2⟩ hv (.inr rfl)⟩ m h (by omega) (by omega)
 exact ⟨1,2000000,_,σ,e,zAW (t:=zAw)⟩
def L_59:LT:=(65,S_65) :: L_58
theorem M_59:MO L_59:=zAE K_65 M_58
theorem noneI3: ∀ f,f=110∨f=82∨f=132∨f=131∨f=83∨f=133→memL L_59 f=none:=by
 rintro f (rfl | rfl | rfl | rfl | rfl | rfl)<;>kernel_rfl
def S_64:zAX:=spc2 zAF zAi zAw (fun m t=>zAb m∧zCP t) zAL.rightT
theorem K_64:zAg env 64 S_64:=kc2 (lm:=L_59) (lt:=txtI) zAY M_59 zMt zRA fun m t h=>by
 have hl:=h.2.2.2.2.2.2.1
 have q: ∀ {f g},memL L_59 f=some g→zAJ env (zAR env pu (memL L_59) (txtL txtI) (2000000+1+1+1)) f g:=fun h=>zAO h (by omega)
 obtain ⟨σ,e⟩:=zR7 (zWp noneI3) ⟨fun m s τ h=>zAJ.c2 (show zAJ env _ 81 S_81 from q rfl) (x:=m) (y:=s) h τ,fun l s τ h=>zAJ.c2 (show zAJ env _ 85 S_85 from q rfl) (x:=l) (y:=s) h τ,fun m l τ h1 h2=>zAJ.c2 (show zAJ env _ 84 S_84 from q rfl) (x:=m) (y:=l) ⟨h1,h2⟩ τ,fun s τ h=>zAJ.c1 (show zAJ env _ 86 S_86 from q rfl) (x:=s) h τ⟩ (k:=2000000) m t h.1 h.2 (by omega)
 exact ⟨_,2000000,_,σ,e,zAW (t:=zAw)⟩
def L_60:LT:=(64,S_64) :: L_59
theorem M_60:MO L_60:=zAE K_64 M_59
def S_36:zAX:=spc1 zAF zAw zAb zAL.right
theorem K_36:zAg env 36 S_36:=kc1 (lm:=L_60) (lt:=[]) zAY M_60 zAH zQ4 fun m h=>by
 have hl:=h.trans
 obtain ⟨σ,e⟩:=zPh (call:=zAR env pu (memL L_60) (txtL []) 1) (k:=2000000) (fun m t τ h1 h2=>zAJ.c2 (aq L_60 64 S_64 rfl) (x:=m) (y:=t) ⟨h1,h2⟩ τ) (fun m τ h=>zAJ.c1 (aq L_60 65 S_65 rfl) (x:=m) h τ) m h (by omega)
 exact ⟨1,2000000,_,σ,e,zAW (t:=zAw)⟩
def L_61:LT:=(36,S_36) :: L_60
theorem M_61:MO L_61:=zAE K_36 M_60
def S_12:zAX:=spc2 zAF zA3 zAw (fun m s=>zAb m∧zDz s) (fun m s=>m.right&&m.fits s)
theorem K_12:zAg env 12 S_12:=kc2 (lm:=L_61) (lt:=[]) zAY M_61 zAH zRB fun m s h=>by
 have l1:=h.1.vars;have l2:=h.1.procs
 obtain ⟨σ,e⟩:=zMT (call:=zAR env pu (memL L_61) (txtL []) 1) (k:=2000000) (fun m τ h=>zAJ.c1 (aq L_61 36 S_36 rfl) (x:=m) h τ) m s h.1 h.2 (by omega) (by omega)
 exact ⟨1,2000000,_,σ,e,zAW (t:=zAw)⟩
def L_62:LT:=(12,S_12) :: L_61
theorem M_62:MO L_62:=zAE K_12 M_61
def S_13:zAX:=spc3 zAF zA3 tStr tStr (fun m s _=>zAb m∧zDz s) zEL
theorem K_13:zAg env 13 S_13:=kc3 (lm:=L_62) (lt:=[]) zAY M_62 zAH zQQ fun m s q h=>by
 have l2:=h.1.procs
 obtain ⟨σ,e⟩:=zMC (call:=zAR env pu (memL L_62) (txtL []) 1) (k:=2000000) (fun m s τ h1 h2=>zAJ.c2 (aq L_62 12 S_12 rfl) (x:=m) (y:=s) ⟨h1,h2⟩ τ) m s q h.1 h.2 (by omega)
 exact ⟨1,2000000,_,σ,e,zAW (t:=tStr)⟩
def L_63:LT:=(13,S_13) :: L_62
theorem M_63:MO L_63:=zAE K_13 M_62
def S_34:zAX:=spc1 tInt tStr (fun n=>-999≤n∧n≤999) zAU
theorem K_34:zAg env 34 S_34:=k_itoa
def L_64:LT:=(34,S_34) :: L_63
theorem M_64:MO L_64:=zAE K_34 M_63
def S_35:zAX:=spc2 (zAB tStr) tStr tStr (fun l sep=>l.length≤7∧(∀ s∈l,s.length≤8)∧sep=[32]) (fun l _=>zD3 [32] l)
theorem K_35:zAg env 35 S_35:=k_join
def L_65:LT:=(35,S_35) :: L_64
theorem M_65:MO L_65:=zAE K_35 M_64
def S_11:zAX:=spc2 zAF zA3 tStr (fun m s=>zAb m∧zDz s) zFl
theorem K_11:zAg env 11 S_11:=kc2 (lm:=L_65) (lt:=[]) zAY M_65 zAH zQW fun m s h=>by
 have l2:=h.1.procs
 have l3:=h.2.2
 have hJ:zAJ env (zAR env pu (memL L_65) (txtL []) 1) 35 S_35:=zAO rfl (Nat.le_refl 1)
 obtain ⟨σ,e⟩:=zMX (call:=zAR env pu (memL L_65) (txtL []) 1) (k:=2000000) (fun m s τ h1 h2=>zAJ.c2 (aq L_65 12 S_12 rfl) (x:=m) (y:=s) ⟨h1,h2⟩ τ) (fun n τ h1 h2=>zAJ.c1 (aq L_65 34 S_34 rfl) (x:=n) ⟨h1,h2⟩ τ) (fun v l τ hv h1 h2=>zAJ.f2 hJ (x:=l) (y:=[32]) ⟨h1,h2,rfl⟩ (zPi hv) (.inr rfl)) m s h.1 h.2 (by omega) (by omega)
 exact ⟨1,2000000,_,σ,e,zAW (t:=tStr)⟩
def L_66:LT:=(11,S_11) :: L_65
theorem M_66:MO L_66:=zAE K_11 M_65
def S_14:zAX:=spc1 tStr (zEk tInt zAw) (fun s=>s.length<1000000) (fun s=>amount s true)
theorem K_14:zAg env 14 S_14:=kc1 (lm:=L_66) (lt:=[]) zAY M_66 zAH zSI fun s h=>by
 have e:=zNF (call:=zAR env pu (memL L_66) (txtL []) 1) (k:=2000000) (fun s g τ h=>zAJ.c2 (aq L_66 37 S_37 rfl) (x:=s) (y:=g) h τ) s h .empty
 exact ⟨1,2000000,_,_,e,zAW (t:=zEk tInt zAw)⟩
def L_67:LT:=(14,S_14) :: L_66
theorem M_67:MO L_67:=zAE K_14 M_66
end
end Go.Proofs.YtglndmmlghpdpaaGreatDoor
