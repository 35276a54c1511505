/-
  part 13 of the proof; no condition.
-/
import Derived.Test.YtglndmmlghpdpaaGreatDoorPL
import Derived.Shelf.Strings.OnBuilder
import Derived.Shelf.Strconv.Itoa3
import Derived.Lib.AppendIntMem
import Derived.ProofKit
namespace Go.Proofs.YtglndmmlghpdpaaGreatDoor
open Go SS
set_option maxRecDepth 100000
noncomputable section
theorem aq (lm:List (FuncId×Ac)) (f:FuncId) (g:Ac) (h:AQ lm f=some g):AL env (AV env pu (AQ lm) (AU []) 1) f g:=BP h (Nat.le_refl 1)
abbrev LT:=List (FuncId×Ac)
abbrev MO (l:LT):=Dt env (AQ l)
def L_0:List (FuncId×Ac):=[]
theorem M_0:Dt env (AQ L_0):=MJ
def S_54:Ac:=BU tU8 BC (fun _=>True) SS.Bn
theorem K_54:Am env 54 S_54:=kc1 (lm:=L_0) (lt:=[]) A7 M_0 A9 fE fun x _=>Dc (k:=1) (k':=1) ⟨_,ZL _ _ _ x⟩
def L_1:LT:=(54,S_54) :: L_0
theorem M_1:MO L_1:=Ay K_54 M_0
def S_53:Ac:=BU tU8 BC (fun _=>True) SS.CV
theorem K_53:Am env 53 S_53:=kc1 (lm:=L_1) (lt:=[]) A7 M_1 A9 fD fun x _=>Dc (k:=1) (k':=1) ⟨_,j6 _ _ _ x⟩
def L_2:LT:=(53,S_53) :: L_1
theorem M_2:MO L_2:=Ay K_53 M_1
def S_103:Ac:=BU Aa Aa (fun _=>True) SS.arity
theorem K_103:Am env 103 S_103:=kc1 (lm:=L_2) (lt:=[]) A7 M_2 A9 cO fun x _=>Dc (k:=1) (k':=1) ⟨_,Xz _ _ _ x⟩
def L_3:LT:=(103,S_103) :: L_2
theorem M_3:MO L_3:=Ay K_103 M_2
def S_124:Ac:=BU Aa Aa (fun _=>True) strength
theorem K_124:Am env 124 S_124:=kc1 (lm:=L_3) (lt:=[]) A7 M_3 A9 dK fun x _=>Dc (k:=1) (k':=1) ⟨_,qC _ _ x _⟩
def L_4:LT:=(124,S_124) :: L_3
theorem M_4:MO L_4:=Ay K_124 M_3
def S_30:Ac:=BU Aa BC (fun _=>True) (fun c=>decide (-999≤c)&&decide (c≤999))
theorem K_30:Am env 30 S_30:=kc1 (lm:=L_4) (lt:=[]) A7 M_4 A9 eH fun x _=>Dc (k:=1) (k':=1) ⟨_,sM _ _ _ x⟩
def L_5:LT:=(30,S_30) :: L_4
theorem M_5:MO L_5:=Ay K_30 M_4
def S_57:Ac:=BU Aa BC (fun _=>True) (fun c=>decide (1≤c)&&decide (c≤999))
theorem K_57:Am env 57 S_57:=kc1 (lm:=L_5) (lt:=[]) A7 M_5 A9 fH fun x _=>Dc (k:=1) (k':=1) ⟨_,aY _ _ _ x⟩
def L_6:LT:=(57,S_57) :: L_5
theorem M_6:MO L_6:=Ay K_57 M_5
def S_59:Ac:=CP AX AC Aa (fun m _=>A8 m) (fun m s=>m.variable s)
theorem K_59:Am env 59 S_59:=kc2 (lm:=L_6) (lt:=[]) A7 M_6 A9 fJ fun m s h=>by
 have hl:=h.vars
 obtain ⟨σ,e⟩:=sG (call:=AV env pu (AQ L_6) (AU []) 1) (k:=2000000) m s h.vars (by omega)
 exact ⟨1,2000000,_,σ,e,Bf (t:=Aa)⟩
def L_7:LT:=(59,S_59) :: L_6
theorem M_7:MO L_7:=Ay K_59 M_6
def S_55:Ac:=CP AX AC Aa (fun m _=>A8 m) (fun m s=>m.process s)
theorem K_55:Am env 55 S_55:=kc2 (lm:=L_7) (lt:=[]) A7 M_7 A9 fF fun m s h=>by
 have hl:=h.procs
 obtain ⟨σ,e⟩:=mQ (call:=AV env pu (AQ L_7) (AU []) 1) (k:=2000000) m s h.procs (by omega)
 exact ⟨1,2000000,_,σ,e,Bf (t:=Aa)⟩
def L_8:LT:=(55,S_55) :: L_7
theorem M_8:MO L_8:=Ay K_55 M_7
def S_45:Ac:=Jj AX Aa AC Aa (fun m p _=>A8 m∧p<m.procs.length) AP.place
theorem K_45:Am env 45 S_45:=kc3 (lm:=L_8) (lt:=[]) A7 M_8 A9 eW fun m p s h=>Dc (k:=1) (k':=2000000) (l7 m p s h.2 fun q hq=>⟨(h.1.proc q hq).2.1,by have:=(h.1.proc q hq).2.1;omega⟩)
def L_9:LT:=(45,S_45) :: L_8
theorem M_9:MO L_9:=Ay K_45 M_8
def S_31:Ac:=BU (AA AC) BC (fun l=>l.length<1000000) twice
theorem K_31:Am env 31 S_31:=kc1 (lm:=L_9) (lt:=[]) A7 M_9 A9 eO fun l h=>Dc (k:=1) (k':=2000000) ⟨_,rE l h (by have:=h;omega) _⟩
def L_10:LT:=(31,S_31) :: L_9
theorem M_10:MO L_10:=Ay K_31 M_9
def S_29:Ac:=BU AC BC (fun s=>s.length<1000000) isWord
theorem K_29:Am env 29 S_29:=kc1 (lm:=L_10) (lt:=[]) A7 M_10 A9 eF fun s h=>Dc (k:=1) (k':=2000000) ⟨_,iE (fun c τ=>AL.c1 (aq L_10 53 S_53 rfl) (x:=c) trivial τ) (fun c τ=>AL.c1 (aq L_10 54 S_54 rfl) (x:=c) trivial τ) s h (by have:=h;omega) _⟩
def L_11:LT:=(29,S_29) :: L_10
theorem M_11:MO L_11:=Ay K_29 M_10
def S_56:Ac:=BU AC (D6 AC BC) (fun s=>s.length<1000000) (fun s=>(s.dropLast,EU s))
theorem K_56:Am env 56 S_56:=kc1 (lm:=L_11) (lt:=[]) A7 M_11 A9 fG fun s h=>Dc (k:=1) (k':=2000000) ⟨_,Yp (fun s τ h=>AL.c1 (aq L_11 29 S_29 rfl) (x:=s) h τ) s h _⟩
def L_12:LT:=(56,S_56) :: L_11
theorem M_12:MO L_12:=Ay K_56 M_11
def S_77:Ac:=BU (AA Ad) BC Ce Ch
theorem K_77:Am env 77 S_77:=kc1 (lm:=L_12) (lt:=[]) A7 M_12 A9 gI fun l h=>Dc (k:=1) (k':=2000000) (nQ (fun s τ h=>AL.c1 (aq L_12 29 S_29 rfl) (x:=s) h τ) (fun n τ=>AL.c1 (aq L_12 103 S_103 rfl) (x:=n) trivial τ) l h (by have:=h.1;omega) _)
def L_13:LT:=(77,S_77) :: L_12
theorem M_13:MO L_13:=Ay K_77 M_12
def S_58:Ac:=CP AX (AA Ad) BC (fun m l=>A8 m∧Ce l) AP.known
theorem K_58:Am env 58 S_58:=kc2 (lm:=L_13) (lt:=[]) A7 M_13 A9 fI fun m l h=>Dc (k:=1) (k':=2000000) (jB ⟨fun s τ h=>AL.c1 (aq L_13 29 S_29 rfl) (x:=s) h τ,fun m s τ h=>AL.c2 (aq L_13 59 S_59 rfl) (x:=m) (y:=s) h τ,fun m s τ h=>AL.c2 (aq L_13 55 S_55 rfl) (x:=m) (y:=s) h τ,fun m p s τ h h2=>AL.c3 (aq L_13 45 S_45 rfl) (x:=m) (y:=p) (z:=s) ⟨h,h2⟩ τ,fun l τ h=>AL.c1 (aq L_13 77 S_77 rfl) (x:=l) h τ⟩ m l h.1 h.2 (by have:=h.2.1;omega))
def L_14:LT:=(58,S_58) :: L_13
theorem M_14:MO L_14:=Ay K_58 M_13
def S_32:Ac:=CP AX BJ BC (fun m t=>A8 m∧DT t) AP.rightT
theorem K_32:Am env 32 S_32:=kc2 (lm:=L_14) (lt:=[]) A7 M_14 A9 eP fun m t h=>Dc (k:=1) (k':=2000000) (nO ⟨fun s τ h=>AL.c1 (aq L_14 29 S_29 rfl) (x:=s) h τ,fun m s τ h=>AL.c2 (aq L_14 59 S_59 rfl) (x:=m) (y:=s) h τ,fun m s τ h=>AL.c2 (aq L_14 55 S_55 rfl) (x:=m) (y:=s) h τ,fun m p s τ h h2=>AL.c3 (aq L_14 45 S_45 rfl) (x:=m) (y:=p) (z:=s) ⟨h,h2⟩ τ,fun l τ h=>AL.c1 (aq L_14 77 S_77 rfl) (x:=l) h τ⟩ (fun s τ h=>AL.c1 (aq L_14 56 S_56 rfl) (x:=s) h τ) (fun c τ=>AL.c1 (aq L_14 57 S_57 rfl) (x:=c) trivial τ) (fun m l τ h h2=>AL.c2 (aq L_14 58 S_58 rfl) (x:=m) (y:=l) ⟨h,h2⟩ τ) m t h.1 h.2 (by have:=h.2.2.2.2.2.2.1;omega))
def L_15:LT:=(32,S_32) :: L_14
theorem M_15:MO L_15:=Ay K_32 M_14
def S_8:Ac:=BU AX BC A8 AP.right
theorem K_8:Am env 8 S_8:=kc1 (lm:=L_15) (lt:=[]) A7 M_15 A9 gK fun m h=>Dc (k:=1) (k':=2000000) (nN ⟨fun s τ h=>AL.c1 (aq L_15 29 S_29 rfl) (x:=s) h τ,fun c τ=>AL.c1 (aq L_15 30 S_30 rfl) (x:=c) trivial τ,fun v l τ hv h=>AL.f1 (aq L_15 31 S_31 rfl) (x:=l) h hv (.inr rfl),fun m t τ h h2=>AL.c2 (aq L_15 32 S_32 rfl) (x:=m) (y:=t) ⟨h,h2⟩ τ⟩ m h (by have:=h.vars;omega) (by have:=h.procs;omega) (fun p hp=>by have:=(h.proc p hp).2.1;omega) (by have:=h.trans;omega))
def L_16:LT:=(8,S_8) :: L_15
theorem M_16:MO L_16:=Ay K_8 M_15
def S_10:Ac:=CP AC tU8 (AA AC) (fun s c=>s.length<1000000∧∃ b,c=by8 b) (fun s c=>cut (UInt8.ofNat c.toNat) s)
theorem K_10:Am env 10 S_10:=kc2 (lm:=L_16) (lt:=[]) A7 M_16 A9 bY fun s c h=>by
 obtain ⟨h1,b,rfl⟩:=h
 obtain ⟨v,τ,q,g1,g2⟩:=Y1 (call:=AV env pu (AQ L_16) (AU []) 1) (k:=2000000) s b h1 (by omega)
 rw [Nw]
 exact ⟨1,2000000,v,τ,g1,VS g2⟩
def L_17:LT:=(10,S_10) :: L_16
theorem M_17:MO L_17:=Ay K_10 M_16
def S_47:Ac:=BU AC (AA AC) (fun s=>s.length<999999) Az
theorem K_47:Am env 47 S_47:=kc1 (lm:=L_17) (lt:=[]) A7 M_17 A9 eX fun s h=>by
 obtain ⟨v,τ,q,g1,g2⟩:=sP (call:=AV env pu (AQ L_17) (AU []) 1) (fun s c τ h=>by have:=AL.c2 (aq L_17 10 S_10 rfl) (x:=s) (y:=by8 c) ⟨h,c,rfl⟩ τ;rw [Nw] at this;exact this) (k:=2000000) s h (by omega)
 exact ⟨1,2000000,v,τ,g1,VS g2⟩
def L_18:LT:=(47,S_47) :: L_17
theorem M_18:MO L_18:=Ay K_47 M_17
end
end Go.Proofs.YtglndmmlghpdpaaGreatDoor
namespace Go.Proofs.YtglndmmlghpdpaaGreatDoor
open Go SS
set_option maxRecDepth 100000
noncomputable section
theorem OB {C:SS.Call} (h:AL env C 10 S_10) (s:B) (c:UInt8) (τ:St) (hs:s.length<1000000):C 10 [.str s,.int .u8 (by8 c)] τ=some ((AA AC).enc (cut c s),τ):=by
 have:=AL.c2 (a:=AC) (b:=tU8) (c:=AA AC) (show AL env C 10 (CP AC tU8 (AA AC) (fun s c=>s.length<1000000∧∃ b,c=by8 b) (fun s c=>cut (UInt8.ofNat c.toNat) s)) from h) (x:=s) (y:=by8 c) ⟨hs,c,rfl⟩ τ
 rw [Nw] at this
 exact this
def NY:Ac:=CP AC BC (D6 Aa BC) (fun s g=>s.length<1000000∧g=false) (fun s _=>Bz s)
theorem XQ:Am env 37 NY:=kc2 (lm:=L_18) (lt:=[]) A7 M_18 A9 TS fun s g h=>by
 obtain ⟨h1,rfl⟩:=h
 have e:=Nj (call:=AV env pu (AQ L_18) (AU []) 1) (k:=2000000) (fun c τ=>AL.c1 (show AL env (AV env pu (AQ L_18) (AU []) 1) 54 S_54 from BP rfl (Nat.le_refl 1)) (x:=c) trivial τ) s h1 (by omega) .empty
 exact ⟨1,2000000,_,_,e,Bf (t:=D6 Aa BC)⟩
def J2:List (FuncId×Ac):=(37,NY) :: L_18
theorem XT:Dt env (AQ J2):=Ay XQ M_18
def S_37:Ac:=CP AC BC (D6 Aa BC) (fun s _=>s.length<1000000) amount
theorem K_37:Am env 37 S_37:=kc2 (lm:=J2) (lt:=[]) A7 XT A9 TS fun s g h=>by
 have e:=Xq (call:=AV env pu (AQ J2) (AU []) 1) (k:=2000000) (fun c τ=>AL.c1 (show AL env (AV env pu (AQ J2) (AU []) 1) 54 S_54 from BP rfl (Nat.le_refl 1)) (x:=c) trivial τ)
  (fun s τ h=>AL.c2 (show AL env (AV env pu (AQ J2) (AU []) 1) 37 NY from BP rfl (Nat.le_refl 1)) (x:=s) (y:=false) ⟨h,rfl⟩ τ) s g h (by omega) .empty
 exact ⟨1,2000000,_,_,e,Bf (t:=D6 Aa BC)⟩
def L_19:LT:=(37,S_37) :: L_18
theorem M_19:MO L_19:=Ay K_37 M_18
def S_50:Ac:=CP AC Aa AC (fun s n=>s.length<1000000∧0≤n∧n<10) (fun s n=>CX s n.toNat)
theorem K_50:Am env 50 S_50:=kc2 (lm:=L_19) (lt:=[]) A7 M_19 A9 fA fun s n h=>by
 obtain ⟨h1,h2,h3⟩:=h
 obtain ⟨n,rfl⟩: ∃ m:Nat,n=(m:Int):=⟨n.toNat,by omega⟩
 rw [Int.toNat_natCast]
 have e:=oP (call:=AV env pu (AQ L_19) (AU []) 1) (k:=2000000) s n h1 (by omega) (by omega) (by omega) .empty
 exact ⟨1,2000000,_,_,e,Bf (t:=AC)⟩
def L_20:LT:=(50,S_50) :: L_19
theorem M_20:MO L_20:=Ay K_50 M_19
def S_48:Ac:=BU (AA AC) (D6 BF BC) (fun l=>l.length<1000000∧∀ s∈l,s.length<1000000) parseVar
theorem K_48:Am env 48 S_48:=kc1 (lm:=L_20) (lt:=[]) A7 M_20 A9 eY fun l h=>by
 obtain ⟨σ,e⟩:=lU (call:=AV env pu (AQ L_20) (AU []) 1) (k:=2000000) (fun s g τ h=>AL.c2 (aq L_20 37 S_37 rfl) (x:=s) (y:=g) h τ) l h.1 h.2
 exact ⟨1,2000000,_,σ,e,Bf (t:=D6 BF BC)⟩
def L_21:LT:=(48,S_48) :: L_20
theorem M_21:MO L_21:=Ay K_48 M_20
def Ge (N:Nat):Ac:=BU VW AC (fun n=>0≤n∧n<(N:Int)) (fun n=>Bj n.toNat)
theorem XR: ∀ j N:Nat,N≤10 ^ j→N≤4000000→Am env 89 (Ge N):=by
 intro j
 induction j with
 | zero =>
  intro N hN _
  refine kc1 (lm:=[]) (lt:=[]) A7 MJ A9 TT fun n h=>?_
  have hn:n=0:=by have:N≤1:=hN;omega
  subst hn
  have e:=mE (call:=AV env pu (AQ []) (AU []) 1) (k:=2000000) 0 (by omega) (fun m τ h=>by omega) (by omega) .empty
  exact ⟨1,2000000,_,_,e,Bf (t:=AC)⟩
 | succ j ih =>
  intro N hN hN2
  have hp:10 ^ (j+1)=10 ^ j*10:=Nat.pow_succ ..
  have k1:Am env 89 (Ge (min N (10 ^ j))):=ih (min N (10 ^ j)) (Nat.min_le_right _ _) (by omega)
  have hm:Dt env (AQ [(89,Ge (min N (10 ^ j)))]):=Ay k1 MJ
  show Am env 89 (BU VW AC (fun n=>0≤n∧n<(N:Int)) (fun n=>Bj n.toNat))
  refine kc1 (lm:=[(89,Ge (min N (10 ^ j)))]) (lt:=[]) A7 hm A9 TT fun n h=>?_
  obtain ⟨h1,h2⟩:=h
  obtain ⟨n,rfl⟩: ∃ m:Nat,n=(m:Int):=⟨n.toNat,by omega⟩
  rw [Int.toNat_natCast]
  have hlt:n<N:=by omega
  have hA:AL env (AV env pu (AQ [(89,Ge (min N (10 ^ j)))]) (AU []) 1) 89 (Ge (min N (10 ^ j))):=BP rfl (Nat.le_refl 1)
  have e:=mF (call:=AV env pu (AQ [(89,Ge (min N (10 ^ j)))]) (AU []) 1) (k:=2000000) n (by omega) (fun h10 τ=>by
   have:=AL.c1 hA (x:=((n / 10:Nat):Int)) ⟨by omega,by omega⟩ τ
   rw [Int.toNat_natCast] at this
   exact this) .empty
  exact ⟨1,2000000,_,_,e,Bf (t:=AC)⟩
def S_89:Ac:=Ge 4000000
theorem K_89:Am env 89 S_89:=XR 7 4000000 (by decide) (by decide)
def L_22:LT:=(89,S_89) :: L_21
theorem M_22:MO L_22:=Ay K_89 M_21
def S_66:Ac:=BU Aa AC (fun n=>-1000000≤n∧n≤1000000) BZ
theorem K_66:Am env 66 S_66:=kc1 (lm:=L_22) (lt:=[]) A7 M_22 A9 fT fun n h=>by
 have e:=ZF (call:=AV env pu (AQ L_22) (AU []) 1) (k:=2000000) n h.1 h.2 (fun m τ h=>by
  have:=AL.c1 (aq L_22 89 S_89 rfl) (x:=(m:Int)) ⟨by omega,by omega⟩ τ
  rw [Int.toNat_natCast] at this
  exact this) .empty
 exact ⟨1,2000000,_,_,e,Bf (t:=AC)⟩
def L_23:LT:=(66,S_66) :: L_22
theorem M_23:MO L_23:=Ay K_66 M_22
def S_100:Ac:=BU (AA Bd) BC GD KI
theorem K_100:Am env 100 S_100:=kc1 (lm:=L_23) (lt:=[]) A7 M_23 A9 bZ fun l h=>by
 have hl:=h.1
 have e:=nM (call:=AV env pu (AQ L_23) (AU []) 1) (k:=2000000) (fun s τ h=>AL.c1 (aq L_23 29 S_29 rfl) (x:=s) h τ) (fun l τ h=>AL.c1 (aq L_23 77 S_77 rfl) (x:=l) h τ) l h (by omega) .empty
 exact ⟨1,2000000,_,_,e,Bf (t:=BC)⟩
def L_24:LT:=(100,S_100) :: L_23
theorem M_24:MO L_24:=Ay K_100 M_23
theorem VB: ∃ F:B→B,∀ s,(1≤s.length∧s.length<1000000)→(∃ σ,t122 (AV env pu (AQ []) (AU []) 1) 2000000 [.str s] .empty=some (.str (F s),σ))∧(F s).length≤s.length :=
 E6 (P:=fun s:B=>1≤s.length∧s.length<1000000) (R:=fun s r=>(∃ σ,t122 (AV env pu (AQ []) (AU []) 1) 2000000 [.str s] .empty=some (.str r,σ))∧r.length≤s.length) fun s h=>by
  obtain ⟨r,σ,e1,e2⟩:=oL (call:=AV env pu (AQ []) (AU []) 1) (k:=2000000) s h.2 h.1 (by omega)
  exact ⟨r,⟨σ,e1⟩,e2⟩
def sgF:B→B:=VB.choose
theorem U5: ∀ s,(1≤s.length∧s.length<1000000)→(∃ σ,t122 (AV env pu (AQ []) (AU []) 1) 2000000 [.str s] .empty=some (.str (sgF s),σ))∧(sgF s).length≤s.length:=VB.choose_spec
def S_122:Ac:=BU AC AC (fun s=>1≤s.length∧s.length<1000000) sgF
theorem K_122:Am env 122 S_122:=kc1 (lm:=[]) (lt:=[]) A7 MJ A9 dI fun s h=>by
 obtain ⟨σ,e⟩:=(U5 s h).1
 exact ⟨1,2000000,_,σ,e,Bf (t:=AC)⟩
def L_25:LT:=(122,S_122) :: L_24
theorem M_25:MO L_25:=Ay K_122 M_24
theorem Q9: ∃ F:BN×Int→Int,∀ x:BN×Int,True→(∃ σ,t147 (AV env pu (AQ L_25) (AU []) 1) 2000000 [BA.enc x.1,.int .i64 x.2] .empty=some (.int .i64 (F x),σ))∧(F x=0∨(6≤F x∧F x≤16∧x.1.kind=4)) :=
 E6 (P:=fun _:BN×Int=>True) (R:=fun x n=>(∃ σ,t147 (AV env pu (AQ L_25) (AU []) 1) 2000000 [BA.enc x.1,.int .i64 x.2] .empty=some (.int .i64 n,σ))∧(n=0∨(6≤n∧n≤16∧x.1.kind=4))) fun x _=>by
  obtain ⟨n,σ,e1,e2⟩:=YN (call:=AV env pu (AQ L_25) (AU []) 1) (k:=2000000) (fun n τ=>AL.c1 (show AL env (AV env pu (AQ L_25) (AU []) 1) 124 S_124 from BP rfl (Nat.le_refl 1)) (x:=n) trivial τ) x.1 x.2 (by omega)
  exact ⟨n,⟨σ,e1⟩,e2⟩
def I8:BN×Int→Int:=Q9.choose
theorem Q8: ∀ x:BN×Int,True→(∃ σ,t147 (AV env pu (AQ L_25) (AU []) 1) 2000000 [BA.enc x.1,.int .i64 x.2] .empty=some (.int .i64 (I8 x),σ))∧(I8 x=0∨(6≤I8 x∧I8 x≤16∧x.1.kind=4)):=Q9.choose_spec
def S_147:Ac:=CP BA Aa Aa (fun _ _=>True) (fun t n=>I8 (t,n))
theorem K_147:Am env 147 S_147:=kc2 (lm:=L_25) (lt:=[]) A7 M_25 A9 dX fun t n _=>by
 obtain ⟨σ,e⟩:=(Q8 (t,n) trivial).1
 exact ⟨1,2000000,_,σ,e,Bf (t:=Aa)⟩
def L_26:LT:=(147,S_147) :: L_25
theorem M_26:MO L_26:=Ay K_147 M_25
end
end Go.Proofs.YtglndmmlghpdpaaGreatDoor
namespace Go.Proofs.YtglndmmlghpdpaaGreatDoor
open Go SS
set_option maxRecDepth 100000
noncomputable section
theorem QI {τ:St} {vs us:List V} (hk:V.kind.kinds vs≠0) (h:vs.mapM (frz env τ 63)=some us):(V.tup vs).kind≠0∧frz env τ 64 (.tup vs)=some (.tup us):=by
 refine ⟨by rw [Gv];exact hk,?_⟩
 show (match vs.mapM (frz env τ 63) with | some ys=>some (V.tup ys) | none=>none)=_
 rw [h]
theorem KN {τ:St} {v u:V} (hk:v.kind≠0) (h:frz env τ 64 v=some u):CD env τ v u:=.inr ⟨hk,h⟩
theorem Td: ∀ r:Gc,(Dq r).kind=0
 | .toks l=>by show (V.tup _).kind=0;rw [Gv,BK,BK,BK,(AA BA).zero];rfl
 | .none _ _=>rfl
theorem VX: ∀ r:Gf,(EX r).kind=0
 | .terms l a=>by show (V.tup _).kind=0;rw [Gv,BK,BK,BK,(AA Ad).zero];rfl
 | .none _ _=>rfl
theorem Pd: ∀ r:Hz,(GX r).kind=0
 | .terms l=>by show (V.tup _).kind=0;rw [Gv,BK,BK,BK,(AA Ad).zero];rfl
 | .none _ _=>rfl
theorem Rt: ∀ r:Hw,(FJ r).kind=0
 | .effs l=>by show (V.tup _).kind=0;rw [Gv,BK,BK,(AA Bd).zero];rfl
 | .none=>rfl
instance:Inhabited Gc:=⟨.none 0 0⟩
instance:Inhabited Gf:=⟨.none 0 0⟩
instance:Inhabited Hz:=⟨.none 0 0⟩
instance:Inhabited Hw:=⟨.none⟩
instance:Inhabited Bi:=⟨⟨0,[],[],[],[],[],[]⟩⟩
instance:Inhabited AP:=⟨⟨[],[],[]⟩⟩
instance:Inhabited CJ:=⟨⟨[],[]⟩⟩
theorem Te: ∃ F:B→Gc,∀ s,True→(∃ v σ,t98 (AV env pu (AQ L_26) (AU []) 1) 2000000 [.str s] .empty=some (v,σ)∧CD env σ v (Dq (F s)))∧J3 (F s) :=
 E6 (P:=fun _:B=>True) (R:=fun s r=>(∃ v σ,t98 (AV env pu (AQ L_26) (AU []) 1) 2000000 [.str s] .empty=some (v,σ)∧CD env σ v (Dq r))∧J3 r) fun s _=>by
  obtain ⟨v,σ,e1,e2⟩:=jS (call:=AV env pu (AQ L_26) (AU []) 1) (k:=2000000) (fun c τ=>AL.c1 (show AL env (AV env pu (AQ L_26) (AU []) 1) 54 S_54 from BP rfl (Nat.le_refl 1)) (x:=c) trivial τ)
   (fun c τ=>AL.c1 (show AL env (AV env pu (AQ L_26) (AU []) 1) 53 S_53 from BP rfl (Nat.le_refl 1)) (x:=c) trivial τ) sgF
   (fun s τ h1 h2=>AL.c1 (show AL env (AV env pu (AQ L_26) (AU []) 1) 122 S_122 from BP rfl (Nat.le_refl 1)) (x:=s) ⟨h1,h2⟩ τ) (fun s h1 h2=>(U5 s ⟨h1,h2⟩).2) s (by omega)
  rcases e2 with ⟨x,toks,b,rfl,hL,hT,h1⟩ | ⟨e,a,rfl,h1,h2,h3⟩
  ·have hk:=KY hL
   obtain ⟨q1,q2⟩:=QI (τ:=σ) (vs:=[x,.int .i64 0,.int .i64 0]) (us:=[(AA BA).enc toks,.int .i64 0,.int .i64 0]) (by rw [BK];omega) (by rw [List.mapM_cons,List.mapM_cons,List.mapM_cons,List.mapM_nil,aD (n:=62) (by omega) hL];rfl)
   exact ⟨.toks toks,⟨_,σ,e1,KN q1 q2⟩,hT,h1⟩
  ·exact ⟨.none e a,⟨_,σ,e1,.inr ⟨(by intro h;cases h),rfl⟩⟩,h1,h2,h3⟩
def IX:B→Gc:=Te.choose
theorem PK: ∀ s,True→(∃ v σ,t98 (AV env pu (AQ L_26) (AU []) 1) 2000000 [.str s] .empty=some (v,σ)∧CD env σ v (Dq (IX s)))∧J3 (IX s):=Te.choose_spec
def S_98:Ac:=BU AC tV0 (fun _=>True) (fun s=>⟨Dq (IX s),Td _⟩)
theorem K_98:Am env 98 S_98:=kc1 (lm:=L_26) (lt:=[]) A7 M_26 A9 gX fun s _=>by
 obtain ⟨v,σ,e1,e2⟩:=(PK s trivial).1
 exact ⟨1,2000000,v,σ,e1,e2⟩
def L_27:LT:=(98,S_98) :: L_26
theorem M_27:MO L_27:=Ay K_98 M_26
def Iq:List (FuncId×CR):=[(123,t123),(146,t146),(153,t153),(154,t154)]
theorem rH:D7 env pu (AU Iq):=EF dJ (EF dW (EF dZ (EF d9 A9)))
theorem reads:FV (AV env pu (AQ L_27) (AU Iq)) (fun t n=>I8 (t,n)) where
 level k vs σ:=Dw (by kernel_rfl) (by kernel_rfl) (by kernel_rfl) rfl k vs σ
 unary k vs σ:=Dw (by kernel_rfl) (by kernel_rfl) (by kernel_rfl) rfl k vs σ
 is k vs σ:=Dw (by kernel_rfl) (by kernel_rfl) (by kernel_rfl) rfl k vs σ
 fail k vs σ:=Dw (by kernel_rfl) (by kernel_rfl) (by kernel_rfl) rfl k vs σ
 binary k hk t lv τ:=AL.c2 (show AL env (AV env pu (AQ L_27) (AU Iq) k) 147 S_147 from BP rfl hk) (x:=t) (y:=lv) trivial τ
 bop t lv:=by rcases (Q8 (t,lv) trivial).2 with h | h;exact .inl h;exact .inr h.2.2
theorem VY: ∃ F:List BN×Nat→Gf,∀ x:List BN×Nat,(DB x.1∧x.2<x.1.length)→(∃ k v σ,t99 (AV env pu (AQ L_27) (AU Iq) k) k [(AA BA).enc x.1,.int .i64 (x.2:Int)] .empty=some (v,σ)∧CD env σ v (EX (F x)))∧J6 x.1 (F x) :=
 E6 (P:=fun x:List BN×Nat=>DB x.1∧x.2<x.1.length) (R:=fun x r=>(∃ k v σ,t99 (AV env pu (AQ L_27) (AU Iq) k) k [(AA BA).enc x.1,.int .i64 (x.2:Int)] .empty=some (v,σ)∧CD env σ v (EX r))∧J6 x.1 r) fun x h=>by
  obtain ⟨K,v,σ,e1,e2⟩:=qP reads h.1 x.2 h.2
  rcases e2 with ⟨y,out,a',b,rfl,hL,h1,h2,h3⟩ | ⟨a',e,rfl,h1,h2⟩
  ·have hk:=KY hL
   obtain ⟨q1,q2⟩:=QI (τ:=σ) (vs:=[y,.int .i64 (a':Int),.int .i64 0]) (us:=[(AA Ad).enc out,.int .i64 (a':Int),.int .i64 0]) (by rw [BK];omega) (by rw [List.mapM_cons,List.mapM_cons,List.mapM_cons,List.mapM_nil,aC (n:=62) (by omega) hL];rfl)
   exact ⟨.terms out a',⟨K,_,σ,e1 K (Nat.le_refl _),KN q1 q2⟩,h1,h2,h3⟩
  ·exact ⟨.none a' e,⟨K,_,σ,e1 K (Nat.le_refl _),.inr ⟨(by intro h;cases h),rfl⟩⟩,h1,h2⟩
def CY:List BN×Nat→Gf:=VY.choose
theorem QD: ∀ x:List BN×Nat,(DB x.1∧x.2<x.1.length)→(∃ k v σ,t99 (AV env pu (AQ L_27) (AU Iq) k) k [(AA BA).enc x.1,.int .i64 (x.2:Int)] .empty=some (v,σ)∧CD env σ v (EX (CY x)))∧J6 x.1 (CY x):=VY.choose_spec
def S_99:Ac:=CP (AA BA) Aa tV0 (fun l a=>DB l∧0≤a∧a<l.length) (fun l a=>⟨EX (CY (l,a.toNat)),VX _⟩)
theorem K_99:Am env 99 S_99:=kc2 (lm:=L_27) (lt:=Iq) A7 M_27 rH gY fun l a h=>by
 obtain ⟨h1,h2,h3⟩:=h
 obtain ⟨a,rfl⟩: ∃ m:Nat,a=(m:Int):=⟨a.toNat,by omega⟩
 obtain ⟨k,v,σ,e1,e2⟩:=(QD (l,a) ⟨h1,by show a<l.length;omega⟩).1
 exact ⟨k,k,v,σ,e1,e2⟩
def L_28:LT:=(99,S_99) :: L_27
theorem M_28:MO L_28:=Ay K_99 M_27
theorem Q2 {C:SS.Call} (h:AL env C 98 S_98) (s:B) (τ:St):C 98 [.str s] τ=some (Dq (IX s),τ):=AL.c1 (a:=AC) (c:=tV0) (P:=fun _=>True) (g:=fun s=>⟨Dq (IX s),Td _⟩) h (x:=s) trivial τ
theorem Q3 {C:SS.Call} (h:AL env C 99 S_99) (l:List BN) (a:Nat) (τ:St) (h1:DB l) (h2:a<l.length):C 99 [(AA BA).enc l,.int .i64 (a:Int)] τ=some (EX (CY (l,a)),τ):=by
 have:=AL.c2 (a:=AA BA) (b:=Aa) (c:=tV0) (P:=fun l a=>DB l∧0≤a∧a<l.length) (g:=fun l a=>⟨EX (CY (l,a.toNat)),VX _⟩) h (x:=l) (y:=(a:Int)) ⟨h1,by omega,by omega⟩ τ
 rw [Int.toNat_natCast] at this
 exact this
theorem UL: ∃ F:B→Hz,∀ s,True→(∃ v σ,t70 (AV env pu (AQ L_28) (AU []) 1) 2000000 [.str s] .empty=some (v,σ)∧CD env σ v (GX (F s)))∧LP (F s) :=
 E6 (P:=fun _:B=>True) (R:=fun s r=>(∃ v σ,t70 (AV env pu (AQ L_28) (AU []) 1) 2000000 [.str s] .empty=some (v,σ)∧CD env σ v (GX r))∧LP r) fun s _=>by
  obtain ⟨v,e1,e2⟩:=lW (call:=AV env pu (AQ L_28) (AU []) 1) (k:=2000000) IX (fun s=>(PK s trivial).2) (fun s τ=>Q2 (BP rfl (Nat.le_refl 1)) s τ) (fun l a=>CY (l,a)) (fun l a h1 h2=>(QD (l,a) ⟨h1,h2⟩).2) (fun l a τ h1 h2=>Q3 (BP rfl (Nat.le_refl 1)) l a τ h1 h2) s .empty
  rcases e2 with ⟨l,rfl,h1,h2⟩ | ⟨e,a,rfl,h1⟩
  ·exact ⟨.terms l,⟨_,_,e1,.inl ⟨Pd (.terms l),rfl⟩⟩,h1,h2⟩
  ·exact ⟨.none e a,⟨_,_,e1,.inr ⟨(by intro h;cases h),rfl⟩⟩,h1⟩
def Km:B→Hz:=UL.choose
theorem UK: ∀ s,True→(∃ v σ,t70 (AV env pu (AQ L_28) (AU []) 1) 2000000 [.str s] .empty=some (v,σ)∧CD env σ v (GX (Km s)))∧LP (Km s):=UL.choose_spec
def S_70:Ac:=BU AC tV0 (fun _=>True) (fun s=>⟨GX (Km s),Pd _⟩)
theorem K_70:Am env 70 S_70:=kc1 (lm:=L_28) (lt:=[]) A7 M_28 A9 fZ fun s _=>by
 obtain ⟨v,σ,e1,e2⟩:=(UK s trivial).1
 exact ⟨1,2000000,v,σ,e1,e2⟩
def L_29:LT:=(70,S_70) :: L_28
theorem M_29:MO L_29:=Ay K_70 M_28
theorem Rx: ∃ F:List B→Hw,∀ l,l.length<1000000→(∃ v σ,t71 (AV env pu (AQ L_29) (AU []) 1) 2000000 [(AA AC).enc l] .empty=some (v,σ)∧CD env σ v (FJ (F l)))∧LJ (F l) :=
 E6 (P:=fun l:List B=>l.length<1000000) (R:=fun l r=>(∃ v σ,t71 (AV env pu (AQ L_29) (AU []) 1) 2000000 [(AA AC).enc l] .empty=some (v,σ)∧CD env σ v (FJ r))∧LJ r) fun l hl=>by
  obtain ⟨v,σ,e1,e2⟩:=lQ (call:=AV env pu (AQ L_29) (AU []) 1) (k:=2000000) IX (fun s=>(PK s trivial).2) (fun s τ=>Q2 (BP rfl (Nat.le_refl 1)) s τ) (fun l a=>CY (l,a)) (fun l a h1 h2=>(QD (l,a) ⟨h1,h2⟩).2) (fun l a τ h1 h2=>Q3 (BP rfl (Nat.le_refl 1)) l a τ h1 h2) l hl (by omega)
  rcases e2 with rfl | ⟨x,effs,b,rfl,hL,hX⟩
  ·exact ⟨.none,⟨_,_,e1,.inr ⟨(by intro h;cases h),rfl⟩⟩,trivial⟩
  ·have hk:=KY hL
   obtain ⟨q1,q2⟩:=QI (τ:=σ) (vs:=[x,.bool true]) (us:=[(AA Bd).enc effs,.bool true]) (by rw [BK];omega) (by rw [List.mapM_cons,List.mapM_cons,List.mapM_nil,Z9 (n:=62) (by omega) hL];rfl)
   exact ⟨.effs effs,⟨_,σ,e1,KN q1 q2⟩,hX⟩
def KH:List B→Hw:=Rx.choose
theorem Rw: ∀ l,l.length<1000000→(∃ v σ,t71 (AV env pu (AQ L_29) (AU []) 1) 2000000 [(AA AC).enc l] .empty=some (v,σ)∧CD env σ v (FJ (KH l)))∧LJ (KH l):=Rx.choose_spec
def S_71:Ac:=BU (AA AC) tV0 (fun l=>l.length<1000000) (fun l=>⟨FJ (KH l),Rt _⟩)
theorem K_71:Am env 71 S_71:=kc1 (lm:=L_29) (lt:=[]) A7 M_29 A9 gB fun l h=>by
 obtain ⟨v,σ,e1,e2⟩:=(Rw l h).1
 exact ⟨1,2000000,v,σ,e1,e2⟩
def L_30:LT:=(71,S_71) :: L_29
theorem M_30:MO L_30:=Ay K_71 M_29
end
end Go.Proofs.YtglndmmlghpdpaaGreatDoor
namespace Go.Proofs.YtglndmmlghpdpaaGreatDoor
open Go SS
set_option maxRecDepth 100000
noncomputable section
def S_125:Ac:=CP FK Aa AC (fun x _=>x.s.length<1000000000) (fun x n=>Ew x.s x.lv n)
theorem K_125:Am env 125 S_125:=kc2 (lm:=L_30) (lt:=[]) A7 M_30 A9 dL fun x n h=>by
 obtain ⟨σ,e⟩:=sN (AV env pu (AQ L_30) (AU []) 1) 2000000 x.s x.lv n h
 exact ⟨1,2000000,_,σ,e,Bf (t:=AC)⟩
def L_31:LT:=(125,S_125) :: L_30
theorem M_31:MO L_31:=Ay K_125 M_30
def S_101:Ac:=BU (AA Ad) AC Ce Dm
theorem K_101:Am env 101 S_101:=kc1 (lm:=L_31) (lt:=[]) A7 M_31 A9 cB fun l h=>by
 have hl:=h.1
 obtain ⟨σ,e⟩:=mO (call:=AV env pu (AQ L_31) (AU []) 1) (k:=2000000) ⟨fun n τ=>AL.c1 (aq L_31 124 S_124 rfl) (x:=n) trivial τ,fun n τ=>AL.c1 (aq L_31 103 S_103 rfl) (x:=n) trivial τ,fun n τ h1 h2=>AL.c1 (aq L_31 66 S_66 rfl) (x:=n) ⟨h1,h2⟩ τ,fun s lv n τ h=>AL.c2 (aq L_31 125 S_125 rfl) (x:=⟨s,lv⟩) (y:=n) h τ⟩ (fun l τ h=>AL.c1 (aq L_31 77 S_77 rfl) (x:=l) h τ) l h (by omega)
 exact ⟨1,2000000,_,σ,e,Bf (t:=AC)⟩
def L_32:LT:=(101,S_101) :: L_31
theorem M_32:MO L_32:=Ay K_101 M_31
def S_102:Ac:=BU (AA Bd) AC GD (D3 Dm)
theorem K_102:Am env 102 S_102:=kc1 (lm:=L_32) (lt:=[]) A7 M_32 A9 cK fun l h=>by
 have hl:=h.1
 have e:=mJ (call:=AV env pu (AQ L_32) (AU []) 1) (k:=2000000) Dm (fun l τ h=>AL.c1 (aq L_32 101 S_101 rfl) (x:=l) h τ) UV l h (by omega) .empty
 exact ⟨1,2000000,_,_,e,Bf (t:=AC)⟩
def L_33:LT:=(102,S_102) :: L_32
theorem M_33:MO L_33:=Ay K_102 M_32
def S_72:Ac:=BU BJ AC DT (fun t=>if Ip t then K0 Dm t else [])
theorem K_72:Am env 72 S_72:=kc1 (lm:=L_33) (lt:=[]) A7 M_33 A9 gC fun t h=>by
 obtain ⟨σ,e⟩:=mK (call:=AV env pu (AQ L_33) (AU []) 1) (k:=2000000) Dm (fun l τ h=>AL.c1 (aq L_33 101 S_101 rfl) (x:=l) h τ) UV (fun s τ h=>AL.c1 (aq L_33 29 S_29 rfl) (x:=s) h τ) (fun s τ h=>AL.c1 (aq L_33 56 S_56 rfl) (x:=s) h τ) (fun c τ=>AL.c1 (aq L_33 57 S_57 rfl) (x:=c) trivial τ) (fun l τ h=>AL.c1 (aq L_33 77 S_77 rfl) (x:=l) h τ) (fun l τ h=>AL.c1 (aq L_33 100 S_100 rfl) (x:=l) h τ) (fun n τ h1 h2=>AL.c1 (aq L_33 66 S_66 rfl) (x:=n) ⟨h1,h2⟩ τ) (fun l τ h=>AL.c1 (aq L_33 102 S_102 rfl) (x:=l) h τ) (fun n h1 h2=>by have:=JG n (by omega) h2;omega) t h
 exact ⟨1,2000000,_,σ,e,Bf (t:=AC)⟩
def L_34:LT:=(72,S_72) :: L_33
theorem M_34:MO L_34:=Ay K_72 M_33
theorem Xp (s:B):amount s false=Bz s:=by
 unfold amount
 split<;>simp
theorem VT (l:List B):V.kind.kinds [V.lst (l.map V.str) false]≤1:=(Oq l .empty).2
theorem UZ: ∃ F:B→Bi×Bool,∀ s,s.length<900000→(∃ v σ,t49 (AV env pu (AQ L_34) (AU []) 1) 2000000 [.str s] .empty=some (v,σ)∧CD env σ v ((D6 BJ BC).enc (F s)))∧DT (F s).1 :=
 E6 (P:=fun s:B=>s.length<900000) (R:=fun s r=>(∃ v σ,t49 (AV env pu (AQ L_34) (AU []) 1) 2000000 [.str s] .empty=some (v,σ)∧CD env σ v ((D6 BJ BC).enc r))∧DT r.1) fun s hs=>by
  have hP:AL env (AV env pu (AQ L_34) (AU []) 1) 70 S_70:=BP rfl (Nat.le_refl 1)
  have hE:AL env (AV env pu (AQ L_34) (AU []) 1) 71 S_71:=BP rfl (Nat.le_refl 1)
  have hS:AL env (AV env pu (AQ L_34) (AU []) 1) 50 S_50:=BP rfl (Nat.le_refl 1)
  have hA:AL env (AV env pu (AQ L_34) (AU []) 1) 37 S_37:=BP rfl (Nat.le_refl 1)
  have hW:AL env (AV env pu (AQ L_34) (AU []) 1) 47 S_47:=BP rfl (Nat.le_refl 1)
  have hC:AL env (AV env pu (AQ L_34) (AU []) 1) 56 S_56:=BP rfl (Nat.le_refl 1)
  have hT:AL env (AV env pu (AQ L_34) (AU []) 1) 72 S_72:=BP rfl (Nat.le_refl 1)
  obtain ⟨v,σ,e1,e2⟩:=lT (call:=AV env pu (AQ L_34) (AU []) 1) (k:=2000000) (fun s τ h=>AL.c1 hW (x:=s) h τ) (fun s τ h=>by have:=AL.c2 hA (x:=s) (y:=false) h τ;rw [Xp] at this;exact this)
   (fun s τ h=>AL.c1 hC (x:=s) h τ) (fun s n τ h1 h2=>by have:=AL.c2 hS (x:=s) (y:=(n:Int)) ⟨h1,by omega,by omega⟩ τ;exact this) (fun s c τ h=>OB (BP rfl (Nat.le_refl 1)) s c τ h)
   Km (fun s=>(UK s trivial).2) (fun s τ=>AL.c1 (a:=AC) (c:=tV0) (P:=fun _=>True) (g:=fun s=>⟨GX (Km s),Pd _⟩) hP (x:=s) trivial τ)
   (fun l=>if l.length<1000000 then KH l else .none) (fun l=>by split;exact (Rw l (by assumption)).2;trivial) (fun l τ h=>by
     rw [if_pos h]
     exact AL.f1 (a:=AA AC) (c:=tV0) (P:=fun l=>l.length<1000000) (g:=fun l=>⟨FJ (KH l),Rt _⟩) hE (x:=l) h (Oq l τ).1 (.inl (VT l)))
   (fun t=>if Ip t then K0 Dm t else []) (fun a b c d e g f τ h=>AL.c1 hT (x:=⟨a,b,c,d,e,g,f⟩) h τ) s hs
  rcases e2 with rfl | ⟨t,rfl,hT⟩
  ·exact ⟨(⟨0,[],[],[],[],[],[]⟩,false),⟨_,σ,e1,.inr ⟨(by intro h;cases h),rfl⟩⟩,by decide,by decide,by decide,by decide,⟨by decide,by simp⟩,by decide,by simp⟩
  ·exact ⟨(t,true),⟨_,σ,e1,Bf (t:=D6 BJ BC) (x:=(t,true))⟩,hT⟩
def ptF:B→Bi×Bool:=UZ.choose
theorem UY: ∀ s,s.length<900000→(∃ v σ,t49 (AV env pu (AQ L_34) (AU []) 1) 2000000 [.str s] .empty=some (v,σ)∧CD env σ v ((D6 BJ BC).enc (ptF s)))∧DT (ptF s).1:=UZ.choose_spec
def S_49:Ac:=BU AC (D6 BJ BC) (fun s=>s.length<900000) ptF
theorem K_49:Am env 49 S_49:=kc1 (lm:=L_34) (lt:=[]) A7 M_34 A9 eZ fun s h=>by
 obtain ⟨v,σ,e1,e2⟩:=(UY s h).1
 exact ⟨1,2000000,v,σ,e1,e2⟩
def L_35:LT:=(49,S_49) :: L_34
theorem M_35:MO L_35:=Ay K_49 M_34
def NX (s:B) (r:AP×Int×Int):Prop:=A8 r.1∧(r.1.right=true→∀ p∈r.1.procs,∃ L∈cut 10 s,Az L=[112,114,111,99] :: p.name :: p.locs)∧(r.1.right=true∨r.1=⟨[],[],[]⟩)
theorem UU: ∃ F:B→AP×Int×Int,∀ s,True→(∃ v σ,t27 (AV env pu (AQ L_35) (AU []) 1) 2000000 [.str s] .empty=some (v,σ)∧CD env σ v ((Kz AX Aa Aa).enc (F s)))∧NX s (F s) :=
 E6 (P:=fun _:B=>True) (R:=fun s r=>(∃ v σ,t27 (AV env pu (AQ L_35) (AU []) 1) 2000000 [.str s] .empty=some (v,σ)∧CD env σ v ((Kz AX Aa Aa).enc r))∧NX s r) fun s _=>by
  have hS:AL env (AV env pu (AQ L_35) (AU []) 1) 50 S_50:=BP rfl (Nat.le_refl 1)
  have hW:AL env (AV env pu (AQ L_35) (AU []) 1) 47 S_47:=BP rfl (Nat.le_refl 1)
  have hV:AL env (AV env pu (AQ L_35) (AU []) 1) 48 S_48:=BP rfl (Nat.le_refl 1)
  have hT:AL env (AV env pu (AQ L_35) (AU []) 1) 49 S_49:=BP rfl (Nat.le_refl 1)
  have hM:AL env (AV env pu (AQ L_35) (AU []) 1) 8 S_8:=BP rfl (Nat.le_refl 1)
  obtain ⟨v,σ,e1,e2⟩:=lS (call:=AV env pu (AQ L_35) (AU []) 1) (k:=2000000) (pt:=ptF)
   ⟨fun s τ h=>AL.c1 hW (x:=s) h τ,fun l τ h1 h2=>AL.f1 hV (x:=l) ⟨h1,h2⟩ (Oq l τ).1 (.inl (VT l)),fun s n τ h1 h2=>by have:=AL.c2 hS (x:=s) (y:=(n:Int)) ⟨h1,by omega,by omega⟩ τ;exact this,fun s τ h=>AL.c1 hT (x:=s) h τ,fun s h=>(UY s h).2⟩
   (fun s c τ h=>OB (BP rfl (Nat.le_refl 1)) s c τ h) (fun v m τ hm hv=>AL.f1 hM (x:=m) hm hv (.inr rfl)) s (by omega)
  rcases e2 with ⟨e,a,rfl,he⟩ | ⟨m,h1,h2,h3,h4,h5⟩
  ·exact ⟨(⟨[],[],[]⟩,e,a),⟨_,σ,e1,.inr ⟨(by intro h;cases h),rfl⟩⟩,⟨by show 0<1000000;omega,fun v hv=>(by simp at hv),by show 0<1000000;omega,fun v hv=>(by simp at hv),by show 0<1000000;omega,fun v hv=>(by simp at hv)⟩,fun h=>(by simp [AP.right] at h),.inr rfl⟩
  ·exact ⟨(m,0,0),⟨_,σ,e1,KN h1 h2⟩,h4,fun _=>h5,.inl h3⟩
def pmF:B→AP×Int×Int:=UU.choose
theorem Pk: ∀ s,True→(∃ v σ,t27 (AV env pu (AQ L_35) (AU []) 1) 2000000 [.str s] .empty=some (v,σ)∧CD env σ v ((Kz AX Aa Aa).enc (pmF s)))∧NX s (pmF s):=UU.choose_spec
def S_27:Ac:=BU AC (Kz AX Aa Aa) (fun _=>True) pmF
theorem K_27:Am env 27 S_27:=kc1 (lm:=L_35) (lt:=[]) A7 M_35 A9 eB fun s _=>by
 obtain ⟨v,σ,e1,e2⟩:=(Pk s trivial).1
 exact ⟨1,2000000,v,σ,e1,e2⟩
def L_36:LT:=(27,S_27) :: L_35
theorem M_36:MO L_36:=Ay K_27 M_35
end
end Go.Proofs.YtglndmmlghpdpaaGreatDoor
namespace Go.Proofs.YtglndmmlghpdpaaGreatDoor
open Go SS
set_option maxRecDepth 100000
noncomputable section
def S_33:Ac:=CP Aa Aa Aa (fun _ m=>0<m∧m<1000000000) Co
theorem K_33:Am env 33 S_33:=kc2 (lm:=L_36) (lt:=[]) A7 M_36 A9 eQ fun n m h=>by
 have e:=lY (AV env pu (AQ L_36) (AU []) 1) 2000000 n m h.1 h.2 .empty
 exact ⟨1,2000000,_,_,e,Bf (t:=Aa)⟩
def L_37:LT:=(33,S_33) :: L_36
theorem M_37:MO L_37:=Ay K_33 M_36
def S_51:Ac:=BU Aa AC (fun n=>0≤n∧n≤999) BZ
theorem K_51:Am env 51 S_51:=kc1 (lm:=L_37) (lt:=[]) A7 M_37 A9 fB fun n h=>by
 have e:=ZG (AV env pu (AQ L_37) (AU []) 1) 2000000 n .empty _ (AL.c1 (aq L_37 66 S_66 rfl) (x:=n) ⟨by omega,by omega⟩ .empty)
 exact ⟨1,2000000,_,_,e,Bf (t:=AC)⟩
def L_38:LT:=(51,S_51) :: L_37
theorem M_38:MO L_38:=Ay K_51 M_37
def QJ:List (FuncId×CR):=[(73,t73),(74,t74),(76,t76),(75,t75)]
theorem rG:D7 env pu (AU QJ):=EF gD (EF gF (EF gH (EF gG A9)))
def Cf (k:Nat):SS.Call:=AV env pu (AQ L_38) (AU QJ) (k+1)
theorem Zj (l:List Int):LM Cf l:=by
 have tn: ∀ k vs σ,Cf (k+1) 73 vs σ=t73 (Cf k) (k+1) vs σ:=fun k vs σ=>Dw (by kernel_rfl) (by kernel_rfl) (by kernel_rfl) rfl (k+1) vs σ
 have tg: ∀ k vs σ,Cf (k+1) 74 vs σ=t74 (Cf k) k vs σ:=fun k vs σ=>(Dw (by kernel_rfl) (by kernel_rfl) (by kernel_rfl) rfl (k+1) vs σ).trans rfl
 have ts: ∀ k vs σ,Cf (k+1) 76 vs σ=t76 (Cf k) k vs σ:=fun k vs σ=>(Dw (by kernel_rfl) (by kernel_rfl) (by kernel_rfl) rfl (k+1) vs σ).trans rfl
 have te: ∀ k vs σ,Cf (k+1) 75 vs σ=t75 (Cf k) k vs σ:=fun k vs σ=>(Dw (by kernel_rfl) (by kernel_rfl) (by kernel_rfl) rfl (k+1) vs σ).trans rfl
 have hp: ∀ k (n m:Int) τ,0<m→m<1000000000→Cf k 33 [.int .i64 n,.int .i64 m] τ=some (.int .i64 (Co n m),τ):=fun k n m τ h1 h2=>AL.c2 (show AL env (Cf k) 33 S_33 from BP rfl (Nat.succ_le_succ (Nat.zero_le k))) (x:=n) (y:=m) ⟨h1,h2⟩ τ
 have nx: ∀ (a:Nat) (m:Int) τ,a<1000000→0<m→m<1000→Fd τ 0 l a→∃ (r:Int) (σ:St) (a':Nat),(∀ k,1≤k→Cf k 73 [.ptr 0 0 0,.int .i64 m] τ=some (.int .i64 r,σ))∧0≤r∧r<m∧Fed τ σ 0 l a a'∧a'≤a+1:=fun a m τ ha hm hb hq=>by
  obtain ⟨r,σ,a',h1,h2⟩:=kT l a 0 (by omega) m hm (by omega) τ hq
  refine ⟨r,σ,a',fun k hk=>?_,h2⟩
  obtain ⟨k,rfl⟩: ∃ k',k=k'+1:=⟨k - 1,by omega⟩
  rw [tn]
  exact h1 _ _ (hp k)
 refine ⟨nx,fun a τ ha hq=>?_,fun a τ ha hq=>?_,fun a τ ha hq=>?_⟩
 ·obtain ⟨s,σ,a',h1,h2⟩:=aR nx a ha τ hq
  refine ⟨s,σ,a',fun k hk=>?_,h2⟩
  obtain ⟨k,rfl⟩: ∃ k',k=k'+1:=⟨k - 1,by omega⟩
  rw [tg]
  exact h1 k (by omega)
 ·obtain ⟨s,σ,a',h1,h2⟩:=oZ nx a ha τ hq
  refine ⟨s,σ,a',fun k hk=>?_,h2⟩
  obtain ⟨k,rfl⟩: ∃ k',k=k'+1:=⟨k - 1,by omega⟩
  rw [ts]
  exact h1 k (by omega)
 ·obtain ⟨K,s,σ,a',h1,h2,h3,h4,h5⟩:=Ze te nx 2 2 rfl a τ (by omega) hq
  have b1:=Q4 2 (by omega)
  have b2:=Q5 2 (by omega)
  exact ⟨K,s,σ,a',h1,h2,by omega,h4,by omega⟩
theorem Ve: ∃ F:List Int×Int→B,∀ x:List Int×Int,(0<x.2∧x.2≤3)→(∃ k σ,t52 (Cf k) k [(AA Aa).enc x.1,.int .i64 x.2] .empty=some (.str (F x),σ))∧Be (F x)∧(F x).length≤2000 :=
 E6 (P:=fun x:List Int×Int=>0<x.2∧x.2≤3) (R:=fun x s=>(∃ k σ,t52 (Cf k) k [(AA Aa).enc x.1,.int .i64 x.2] .empty=some (.str s,σ))∧Be s∧s.length≤2000) fun x h=>by
  obtain ⟨k,s,σ,e1,e2,e3⟩:=rA (Zj x.1) x.2 h.1 h.2
  exact ⟨s,⟨k,σ,e1⟩,e2,e3⟩
def trF:List Int×Int→B:=Ve.choose
theorem Vd: ∀ x:List Int×Int,(0<x.2∧x.2≤3)→(∃ k σ,t52 (Cf k) k [(AA Aa).enc x.1,.int .i64 x.2] .empty=some (.str (trF x),σ))∧Be (trF x)∧(trF x).length≤2000:=Ve.choose_spec
def S_52:Ac:=CP (AA Aa) Aa AC (fun _ n=>0<n∧n≤3) (fun l n=>trF (l,n))
theorem K_52:Am env 52 S_52:=kc2 (lm:=L_38) (lt:=QJ) A7 M_38 rG fC fun l n h=>by
 obtain ⟨k,σ,e⟩:=(Vd (l,n) h).1
 exact ⟨k+1,k,_,σ,e,Bf (t:=AC)⟩
def L_39:LT:=(52,S_52) :: L_38
theorem M_39:MO L_39:=Ay K_52 M_38
theorem Vj: ∃ F:Raw→B,∀ x:Raw,True→(∃ σ,t28 (AV env pu (AQ L_39) (AU []) 1) 2000000 [D5.enc x] .empty=some (.str (F x),σ))∧Cv (F x) 16 :=
 E6 (P:=fun _:Raw=>True) (R:=fun x s=>(∃ σ,t28 (AV env pu (AQ L_39) (AU []) 1) 2000000 [D5.enc x] .empty=some (.str s,σ))∧Cv s 16) fun x _=>by
  have hP:AL env (AV env pu (AQ L_39) (AU []) 1) 33 S_33:=BP rfl (Nat.le_refl 1)
  have hD:AL env (AV env pu (AQ L_39) (AU []) 1) 51 S_51:=BP rfl (Nat.le_refl 1)
  have hT:AL env (AV env pu (AQ L_39) (AU []) 1) 52 S_52:=BP rfl (Nat.le_refl 1)
  obtain ⟨s,σ,e1,e2⟩:=qR (call:=AV env pu (AQ L_39) (AU []) 1) (k:=2000000) (tr:=fun l n=>trF (l,n)) ⟨fun n m τ h1 h2=>AL.c2 hP (x:=n) (y:=m) ⟨h1,h2⟩ τ,fun n τ h1 h2=>AL.c1 hD (x:=n) ⟨h1,h2⟩ τ,fun l n τ h1 h2=>AL.c2 hT (x:=l) (y:=n) ⟨h1,h2⟩ τ,fun l n h1 h2=>(Vd (l,n) ⟨h1,h2⟩).2⟩ (by omega) x
  exact ⟨s,⟨σ,e1⟩,e2⟩
def txF:Raw→B:=Vj.choose
theorem Vi: ∀ x:Raw,True→(∃ σ,t28 (AV env pu (AQ L_39) (AU []) 1) 2000000 [D5.enc x] .empty=some (.str (txF x),σ))∧Cv (txF x) 16:=Vj.choose_spec
def S_28:Ac:=BU D5 AC (fun _=>True) txF
theorem K_28:Am env 28 S_28:=kc1 (lm:=L_39) (lt:=[]) A7 M_39 A9 eD fun x _=>by
 obtain ⟨σ,e⟩:=(Vi x trivial).1
 exact ⟨1,2000000,_,σ,e,Bf (t:=AC)⟩
def L_40:LT:=(28,S_28) :: L_39
theorem M_40:MO L_40:=Ay K_28 M_39
def mkF (x:Raw):AP:=(pmF (txF x)).1
def S_7:Ac:=BU D5 AX (fun _=>True) mkF
theorem K_7:Am env 7 S_7:=kc1 (lm:=L_40) (lt:=[]) A7 M_40 A9 fV fun x _=>by
 obtain ⟨σ,e⟩:=kM (call:=AV env pu (AQ L_40) (AU []) 1) (k:=2000000) txF (fun x τ=>AL.c1 (aq L_40 28 S_28 rfl) (x:=x) trivial τ) pmF (fun x τ=>AL.c1 (aq L_40 27 S_27 rfl) (x:=txF x) trivial τ) x
 exact ⟨1,2000000,_,σ,e,Bf (t:=AX)⟩
def L_41:LT:=(7,S_7) :: L_40
theorem M_41:MO L_41:=Ay K_7 M_40
theorem TA: ∃ F:AP×Int→CJ,∀ x:AP×Int,(A8 x.1∧x.1.right=true)→(∃ v σ,t9 (AV env pu (AQ L_41) (AU []) 1) 2000000 [AX.enc x.1,.int .i64 x.2] .empty=some (v,σ)∧CD env σ v (Bt.enc (F x)))∧x.1.fits (F x)=true :=
 E6 (P:=fun x:AP×Int=>A8 x.1∧x.1.right=true) (R:=fun x s=>(∃ v σ,t9 (AV env pu (AQ L_41) (AU []) 1) 2000000 [AX.enc x.1,.int .i64 x.2] .empty=some (v,σ)∧CD env σ v (Bt.enc s))∧x.1.fits s=true) fun x h=>by
  have hP:AL env (AV env pu (AQ L_41) (AU []) 1) 33 S_33:=BP rfl (Nat.le_refl 1)
  obtain ⟨r1,r2,_⟩:=Je h.2
  have l1:=h.1.procs
  have l2:=h.1.vars
  obtain ⟨v,σ,s,e1,e2,e3,e4⟩:=aS (call:=AV env pu (AQ L_41) (AU []) 1) (k:=2000000) (fun n m τ h1 h2=>AL.c2 hP (x:=n) (y:=m) ⟨h1,h2⟩ τ) x.1 x.2 h.1 (fun p hp=>(r2 p hp).2.1) (fun v hv=>⟨(r1 v hv).2.1,Int.le_trans (r1 v hv).2.2.1 (r1 v hv).2.2.2.1,(r1 v hv).2.2.2.2⟩) (by omega) (by omega)
  exact ⟨s,⟨v,σ,e1,KN e2 e3⟩,e4⟩
def hsF:AP×Int→CJ:=TA.choose
theorem S9: ∀ x:AP×Int,(A8 x.1∧x.1.right=true)→(∃ v σ,t9 (AV env pu (AQ L_41) (AU []) 1) 2000000 [AX.enc x.1,.int .i64 x.2] .empty=some (v,σ)∧CD env σ v (Bt.enc (hsF x)))∧x.1.fits (hsF x)=true:=TA.choose_spec
def S_9:Ac:=CP AX Aa Bt (fun m _=>A8 m∧m.right=true) (fun m n=>hsF (m,n))
theorem K_9:Am env 9 S_9:=kc2 (lm:=L_41) (lt:=[]) A7 M_41 A9 gW fun m n h=>by
 obtain ⟨v,σ,e1,e2⟩:=(S9 (m,n) h).1
 exact ⟨1,2000000,v,σ,e1,e2⟩
def L_42:LT:=(9,S_9) :: L_41
theorem M_42:MO L_42:=Ay K_9 M_41
end
end Go.Proofs.YtglndmmlghpdpaaGreatDoor
namespace Go.Proofs.YtglndmmlghpdpaaGreatDoor
open Go Go.Proofs Go.Shelf Go.RowKit
set_option maxRecDepth 100000
def Fl:Go.Shelf.Ren:={ f:=fun x=>match x with | 156=>35 | 165=>61 | 166=>62 | 169=>63 | 240=>79 | 241=>80 | 276=>108 | 277=>109 | n=>n,t:=fun x=>match x with | 31=>37 | 9=>9 | 3=>3 | 4=>4 | 0=>0 | 20=>20 | 72=>104 | 76=>81 | 70=>101 | 37=>102 | 75=>80 | 127=>125 | 164=>157 | 5=>5 | 80=>106 | n=>n,g:=fun x=>have n:=x;n }
theorem TY:Lays.n156 Tryz.prog Fl:={ mixed:=Eq.refl true,f156:=Eq.trans Tryz.func35 (congrArg some (Eq.refl (Body.n156 Fl))),f165:=Eq.trans Tryz.func61 (congrArg some (Eq.refl (Body.n165 Fl))),f166:=Eq.trans Tryz.func62 (congrArg some (Eq.refl (Body.n166 Fl))),f169:=Eq.trans Tryz.func63 (congrArg some (Eq.refl (Body.n169 Fl))),f240:=Eq.trans Tryz.func79 (congrArg some (Eq.refl (Body.n240 Fl))),f241:=Eq.trans Tryz.func80 (congrArg some (Eq.refl (Body.n241 Fl))),f276:=Eq.trans Tryz.func108 (congrArg some (Eq.refl (Body.n276 Fl))),f277:=Eq.trans Tryz.func109 (congrArg some (Eq.refl (Body.n277 Fl))),t0:=Tryz.underlying0,a0:=Tryz.isAgg0,z0:=Tryz.sizeOf0,v0:=Tryz.zeroValue0,t3:=Tryz.underlying3,a3:=Tryz.isAgg3,z3:=Tryz.sizeOf3,v3:=Tryz.zeroValue3,t4:=Tryz.underlying4,a4:=Tryz.isAgg4,z4:=Tryz.sizeOf4,v4:=Tryz.zeroValue4,t9:=Tryz.underlying9,a9:=Tryz.isAgg9,z9:=Tryz.sizeOf9,v9:=Tryz.zeroValue9,t20:=Tryz.underlying20,a20:=Tryz.isAgg20,z20:=Tryz.sizeOf20,v20:=Tryz.zeroValue20,t31:=Tryz.underlying37,a31:=Tryz.isAgg37,z31:=Tryz.sizeOf37,v31:=Tryz.zeroValue37,t37:=Tryz.underlying102,a37:=Tryz.isAgg102,z37:=Tryz.sizeOf102,v37:=Tryz.zeroValue102,t70:=Tryz.underlying101,a70:=Tryz.isAgg101,z70:=Tryz.sizeOf101,v70:=Tryz.zeroValue101,t72:=Tryz.underlying104,a72:=Tryz.isAgg104,z72:=Tryz.sizeOf104,v72:=Tryz.zeroValue104,t75:=Tryz.underlying80,a75:=Tryz.isAgg80,z75:=Tryz.sizeOf80,v75:=Tryz.zeroValue80,t76:=Tryz.underlying81,a76:=Tryz.isAgg81,z76:=Tryz.sizeOf81,v76:=Tryz.zeroValue81,t127:=Tryz.underlying125,a127:=Tryz.isAgg125,z127:=Tryz.sizeOf125,v127:=Tryz.zeroValue125,t164:=Tryz.underlying157,a164:=Tryz.isAgg157,z164:=Tryz.sizeOf157,v164:=Tryz.zeroValue157 }
theorem SQ:Builder.Extra Tryz.prog Fl where
 sizeBuilder:=by kernel_rfl
 liesBuilder:=by kernel_rfl
 t5:=Tryz.underlying5
 a5:=Tryz.isAgg5
 z5:=Tryz.sizeOf5
 v5:=Tryz.zeroValue5
 infoByte:=by kernel_rfl
 cellsByte:=by kernel_rfl
 sizeByte:=by kernel_rfl
 neB5:=by decide
def EE:Go.Shelf.Ren:={ f:=fun x=>match x with | 171=>34 | 243=>60 | 246=>78 | 283=>104 | 284=>105 | 285=>106 | 286=>107 | 129=>127 | 317=>126 | 318=>128 | 319=>129 | 320=>130 | 337=>148 | 338=>149 | n=>n,t:=fun x=>match x with | 3=>3 | 9=>9 | 2=>2 | 4=>4 | 171=>152 | 0=>0 | 53=>131 | 37=>102 | 5=>5 | 173=>155 | 212=>183 | 51=>184 | 20=>20 | 213=>185 | 46=>170 | 232=>203 | 233=>204 | n=>n,g:=fun x=>match x with | 17=>5 | 18=>9 | 19=>10 | n=>n }
theorem jH:LaysM.n171 Tryz.prog EE:={ mixed:=Eq.refl true,f129:=Eq.trans Tryz.func127 (congrArg some (Eq.refl (Body.n129 EE))),f171:=Eq.trans Tryz.func34 (congrArg some (Eq.refl (Body.n171 EE))),f243:=Eq.trans Tryz.func60 (congrArg some (Eq.refl (Body.n243 EE))),f246:=Eq.trans Tryz.func78 (congrArg some (Eq.refl (Body.n246 EE))),f283:=Eq.trans Tryz.func104 (congrArg some (Eq.refl (Body.n283 EE))),f284:=Eq.trans Tryz.func105 (congrArg some (Eq.refl (Body.n284 EE))),f285:=Eq.trans Tryz.func106 (congrArg some (Eq.refl (Body.n285 EE))),f286:=Eq.trans Tryz.func107 (congrArg some (Eq.refl (Body.n286 EE))),f317:=Eq.trans Tryz.func126 (congrArg some (Eq.refl (Body.n317 EE))),f318:=Eq.trans Tryz.func128 (congrArg some (Eq.refl (Body.n318 EE))),f319:=Eq.trans Tryz.func129 (congrArg some (Eq.refl (Body.n319 EE))),f320:=Eq.trans Tryz.func130 (congrArg some (Eq.refl (Body.n320 EE))),f337:=Eq.trans Tryz.func148 (congrArg some (Eq.refl (Body.n337 EE))),f338:=Eq.trans Tryz.func149 (congrArg some (Eq.refl (Body.n338 EE))),t0:=Tryz.underlying0,a0:=Tryz.isAgg0,z0:=Tryz.sizeOf0,v0:=Tryz.zeroValue0,t2:=Tryz.underlying2,a2:=Tryz.isAgg2,z2:=Tryz.sizeOf2,v2:=Tryz.zeroValue2,t3:=Tryz.underlying3,a3:=Tryz.isAgg3,z3:=Tryz.sizeOf3,v3:=Tryz.zeroValue3,t4:=Tryz.underlying4,a4:=Tryz.isAgg4,z4:=Tryz.sizeOf4,v4:=Tryz.zeroValue4,t5:=Tryz.underlying5,a5:=Tryz.isAgg5,z5:=Tryz.sizeOf5,v5:=Tryz.zeroValue5,t9:=Tryz.underlying9,a9:=Tryz.isAgg9,z9:=Tryz.sizeOf9,v9:=Tryz.zeroValue9,t20:=Tryz.underlying20,a20:=Tryz.isAgg20,z20:=Tryz.sizeOf20,v20:=Tryz.zeroValue20,t37:=Tryz.underlying102,a37:=Tryz.isAgg102,z37:=Tryz.sizeOf102,v37:=Tryz.zeroValue102,t46:=Tryz.underlying170,a46:=Tryz.isAgg170,z46:=Tryz.sizeOf170,v46:=Tryz.zeroValue170,t51:=Tryz.underlying184,a51:=Tryz.isAgg184,z51:=Tryz.sizeOf184,v51:=Tryz.zeroValue184,t53:=Tryz.underlying131,a53:=Tryz.isAgg131,z53:=Tryz.sizeOf131,v53:=Tryz.zeroValue131,t171:=Tryz.underlying152,a171:=Tryz.isAgg152,z171:=Tryz.sizeOf152,v171:=Tryz.zeroValue152,t173:=Tryz.underlying155,a173:=Tryz.isAgg155,z173:=Tryz.sizeOf155,v173:=Tryz.zeroValue155,t212:=Tryz.underlying183,a212:=Tryz.isAgg183,z212:=Tryz.sizeOf183,v212:=Tryz.zeroValue183,t213:=Tryz.underlying185,a213:=Tryz.isAgg185,z213:=Tryz.sizeOf185,t232:=Tryz.underlying203,a232:=Tryz.isAgg203,z232:=Tryz.sizeOf203,v232:=Tryz.zeroValue203,t233:=Tryz.underlying204,a233:=Tryz.isAgg204,z233:=Tryz.sizeOf204,v233:=Tryz.zeroValue204,g17:=by kernel_rfl,g18:=by kernel_rfl,g19:=by kernel_rfl,i0:=by kernel_rfl,i2:=by kernel_rfl,i3:=by kernel_rfl,i4:=by kernel_rfl,i5:=by kernel_rfl,i9:=by kernel_rfl,i20:=by kernel_rfl,i37:=by kernel_rfl,i46:=by kernel_rfl,i51:=by kernel_rfl,i53:=by kernel_rfl,i171:=by kernel_rfl,i173:=by kernel_rfl,i212:=by kernel_rfl,i232:=by kernel_rfl,i233:=by kernel_rfl,m17:=by kernel_rfl,m18:=by kernel_rfl,m19:=by kernel_rfl }
theorem US (n:Nat):SS.Bj n=Lib.decDigits n:=by
 induction n using Nat.strongRecOn with
 | _ n ih =>
  unfold SS.Bj
  rw [Lib.decDigits]
  by_cases h:n<10
  ·rw [if_pos h,dif_pos h]
  ·rw [if_neg h,dif_neg h,ih (n / 10) (by omega)]
theorem ZE (n:Int):SS.BZ n=Lib.itoa n:=by
 unfold SS.BZ Lib.itoa
 by_cases h:n<0
 ·rw [if_pos h,if_pos h,US,show (-n).toNat=n.natAbs by omega]
 ·rw [if_neg h,if_neg h,US]
theorem iH (l:List SS.B) (sep:SS.B):Lib.join l sep=SS.DV sep l:=by
 induction l with
 | nil=>rfl
 | cons a r ih =>
  cases r with
  | nil=>exact Lib.join_one a sep
  | cons b r =>
   show Lib.join (a :: b :: r) sep=a++sep++SS.DV sep (b :: r)
   rw [←ih,Lib.join_cons,Lib.join_cons]
   simp [Lib.joinTail]
theorem qM {w:World} (h:SS.GOk env (SS.DC w)):Lib.TabIs Tryz.prog w "internal/strconv.uint64pow10" .u64 Lib.pow10Tab:=by
 have hg:env.G 5=some (Lib.pow10Tab.map (SS.V.int .u64)):=by kernel_rfl
 obtain ⟨cs,t,fr,h1,h2⟩:=h.1 5 _ hg
 have h2:=h2 SS.Cc
 have key: ∀ (l:List Int) (l':List Value),SS.VRL SS.Cc (SS.DC w) (l.map (SS.V.int .u64)) l'→l'=l.map fun z=>Value.int .u64 z:=by
  intro l
  induction l with
  | nil=>intro l' h;cases h;rfl
  | cons a l ih =>
   intro l' h
   cases h with
   | cons _ _ _ l2 h3 h4 =>
    cases h3
    rw [List.map_cons,←ih l2 h4]
 have h3:=key _ _ h2
 unfold Lib.TabIs World.var?
 have hn:Tryz.prog.globalNamed "internal/strconv.uint64pow10" = some 5:=by kernel_rfl
 rw [hn]
 have h1:w.heap[5]? = some (.cells cs t fr):=h1
 simp only [Option.bind_some,h1]
 rw [←h3]
theorem iJ:SS.Am env 34 (SS.BU SS.Aa SS.AC (fun n=>-999≤n∧n≤999) SS.BZ):=by
 refine SS.TW (c:=SS.I9 Tryz.f34) Tryz.func34 (by kernel_rfl) (by kernel_rfl) fun ws u hg=>?_
 obtain ⟨x,y,h1,rfl,rfl⟩:=SS.VI hg
 obtain ⟨⟨p1,p2⟩,rfl⟩:=SS.Kj h1
 refine ⟨rfl,fun w vs' hgo hv=>?_⟩
 cases hv with
 | cons _ v' _ _ h2 h3 =>
  cases h2
  cases h3
  refine (Any.strconv_Itoa jH x (by omega) (by omega) w (qM hgo)).mono fun e w' he=>?_
  obtain ⟨rfl,k,os,rfl⟩:=he
  refine ⟨_,rfl,?_,?_⟩
  ·rw [←ZE];exact .str _
  ·exact Lib.below_grow _ w (Nat.le_refl _) k os
theorem Ur {M:SS.Mem}: ∀ (l:List SS.B) (r:List Value),SS.Bl SS.Cc M 1 (l.map SS.V.str) r→∀ (j:Nat) (x:ByteArray),(l.map fun s=>(⟨s.toArray⟩:ByteArray))[j]? = some x→r[j]? = some (Value.string x)
 | [],r,_,j,x,h=>by simp at h
 | s :: l,r,hr,j,x,h=>by
  cases hr with
  | cons _ _ _ cs r2 h1 h2 h3 =>
   have h1:SS.VRL SS.Cc M [SS.V.str s] cs:=h1
   cases h1 with
   | cons _ v' _ cs' g1 g2 =>
    cases g1
    cases g2
    cases j with
    | zero =>
     simp only [List.map_cons,List.getElem?_cons_zero,Option.some.injEq] at h
     subst h
     rfl
    | succ j =>
     simp only [List.map_cons,List.getElem?_cons_succ] at h
     have:=Ur l r2 h3 j x h
     simpa using this
theorem iL:SS.Am env 35 (SS.CP (SS.AA SS.AC) SS.AC SS.AC (fun l sep=>l.length≤7∧(∀ s∈l,s.length≤8)∧sep=[32]) (fun l _=>SS.DV [32] l)):=by
 refine SS.TW (c:=SS.I9 Tryz.f35) Tryz.func35 (by kernel_rfl) (by kernel_rfl) fun ws u hg=>?_
 obtain ⟨l,sep,z,h1,rfl,rfl⟩:=SS.VJ hg
 obtain ⟨⟨p1,p2,p3⟩,rfl⟩:=SS.Kj h1
 have p3:sep=[32]:=p3
 subst p3
 refine ⟨rfl,fun w vs' hgo hv=>?_⟩
 cases hv with
 | cons _ v' _ vs2 h2 h3 =>
  cases h3 with
  | cons _ v2 _ vs3 h4 h5 =>
   cases h4
   cases h5
   match l,p1,p2,h2 with
   | [],_,_,h2 =>
    have h2:SS.VR SS.Cc (SS.DC w) .emp v':=h2
    cases h2 with
    | emp a cap _ =>
     refine (Any.strings_Join_none TY SQ a cap _ w).mono fun e w' he=>?_
     obtain ⟨rfl,rfl⟩:=he
     exact ⟨_,rfl,.str _,Below.refl _ _⟩
   | s :: r,p1,p2,h2 =>
    have h2:SS.VR SS.Cc (SS.DC w) (.lst ((s :: r).map SS.V.str) false) v':=h2
    cases h2 with
    | lst _ _ _ b o cap cs t fr g1 g2 g3 g4 =>
     have g1:w.heap[b]? = some (.cells cs t fr):=g1
     have hlen:(r.map SS.V.str).length+1=((s :: r).map fun s=>(⟨s.toArray⟩:ByteArray)).length:=by simp
     have hrow:=Ur (s :: r) _ g2
     have hmap:((s :: r).map fun s=>(⟨s.toArray⟩:ByteArray)).map (·.data.toList)=s :: r:=by
      rw [List.map_map]
      have:((fun x:ByteArray=>x.data.toList)∘fun s:SS.B=>(⟨s.toArray⟩:ByteArray))=id:=by funext x;rfl
      rw [this,List.map_id]
     have hj:Lib.join (((s :: r).map fun s=>(⟨s.toArray⟩:ByteArray)).map (·.data.toList)) (⟨[32].toArray⟩:ByteArray).data.toList=SS.DV [32] (s :: r):=by
      rw [hmap];exact iH _ _
     have hjl:(SS.DV [32] (s :: r)).length≤1000:=by
      have jl: ∀ l:List SS.B,(∀ a∈l,a.length≤8)→(SS.DV [32] l).length≤l.length*9:=by
       intro l
       induction l with
       | nil=>intro _;simp [SS.DV]
       | cons a q ih =>
        intro h
        have i1:=h a (by simp)
        have i2:=ih fun x hx=>h x (by simp [hx])
        cases q with
        | nil=>show a.length≤_;simp;omega
        | cons b q =>
         show (a++[32]++SS.DV [32] (b :: q)).length≤_
         have e1:(a :: b :: q).length*9=(b :: q).length*9+9:=by rw [List.length_cons (a:=a),Nat.add_mul]
         have e2:([32]:SS.B).length=1:=rfl
         rw [List.length_append,List.length_append,e1,e2]
         omega
      have:=jl (s :: r) p2
      have p1:(s :: r).length≤7:=p1
      omega
     rw [hlen]
     refine (Any.strings_Join TY SQ b o cap _ _ w (fun j x hx=>?_) (Array.getElem?_eq_some_iff.1 g1).1 ?_ ?_ ?_).mono fun e w' he=>?_
     ·have:=hrow j x hx
      rw [List.getElem?_drop] at this
      unfold World.cell?
      simp only [g1]
      simpa using this
     ·have p1:(s :: r).length≤7:=p1
      rw [List.length_map];omega
     ·rw [←hlen];exact g3
     ·rw [hj];omega
     ·obtain ⟨rfl,hb⟩:=he
      refine ⟨_,rfl,?_,hb⟩
      rw [hj]
      exact .str _
end Go.Proofs.YtglndmmlghpdpaaGreatDoor
namespace Go.Proofs.YtglndmmlghpdpaaGreatDoor
open Go SS
set_option maxRecDepth 100000
noncomputable section
def S_136:Ac:=BU tU8 BC (fun _=>True) SS.CV
theorem K_136:Am env 136 S_136:=kc1 (lm:=L_42) (lt:=[]) A7 M_42 A9 dS fun c _=>Dc (k:=1) (k':=1) ⟨_,YJ c _⟩
def L_43:LT:=(136,S_136) :: L_42
theorem M_43:MO L_43:=Ay K_136 M_42
def S_150:Ac:=BU tU8 BC (fun _=>True) SS.Bn
theorem K_150:Am env 150 S_150:=kc1 (lm:=L_43) (lt:=[]) A7 M_43 A9 dY fun c _=>Dc (k:=1) (k':=1) ⟨_,ZK c _⟩
def L_44:LT:=(150,S_150) :: L_43
theorem M_44:MO L_44:=Ay K_150 M_43
def S_138:Ac:=BU tU8 BC (fun _=>True) Dr
theorem K_138:Am env 138 S_138:=kc1 (lm:=L_44) (lt:=[]) A7 M_44 A9 dU fun c _=>Dc (k:=1) (k':=1) ⟨_,sK (fun c τ=>AL.c1 (aq L_44 136 S_136 rfl) (x:=c) trivial τ) (fun c τ=>AL.c1 (aq L_44 150 S_150 rfl) (x:=c) trivial τ) c _⟩
def L_45:LT:=(138,S_138) :: L_44
theorem M_45:MO L_45:=Ay K_138 M_44
theorem rJ:D7 env pu (AU [(137,t137)]):=EF TQ A9
theorem nZ (k:Nat) (hk:2000000<k) (s:B) (τ:St) (hs:s.length<1000000):AV env pu (AQ L_45) (AU [(137,t137)]) (k+1) 137 [.str s,.fn 138 []] τ=some (.str (s.takeWhile fun c=>Dr (by8 c)),τ):=by
 rw [Dw (t:=t137) (by kernel_rfl) (by kernel_rfl) (by kernel_rfl) rfl]
 exact oC (fun c τ=>AL.c1 (show AL env (AV env pu (AQ L_45) (AU [(137,t137)]) k) 138 S_138 from BP rfl (by omega)) (x:=c) trivial τ) s hs (by omega) τ
def S_114:Ac:=BU AC BC (fun s=>s.length<1000000) isWord
theorem K_114:Am env 114 S_114:=kc1 (lm:=L_45) (lt:=[(137,t137)]) A7 M_45 rJ dG fun s h=>by
 have e:=iB (call:=AV env pu (AQ L_45) (AU [(137,t137)]) (2000001+1)) (k:=2000000) (fun c τ=>AL.c1 (show AL env (AV env pu (AQ L_45) (AU [(137,t137)]) (2000001+1)) 136 S_136 from BP rfl (by omega)) (x:=c) trivial τ) (fun s τ h=>nZ 2000001 (by omega) s τ h) s h .empty
 exact ⟨2000001+1,2000000,_,_,e,Bf (t:=BC)⟩
def L_46:LT:=(114,S_114) :: L_45
theorem M_46:MO L_46:=Ay K_114 M_45
def S_134:Ac:=BU Aa Aa (fun _=>True) SS.arity
theorem K_134:Am env 134 S_134:=kc1 (lm:=L_46) (lt:=[]) A7 M_46 A9 dQ fun n _=>Dc (k:=1) (k':=1) ⟨_,lM n _⟩
def L_47:LT:=(134,S_134) :: L_46
theorem M_47:MO L_47:=Ay K_134 M_46
def S_135:Ac:=BU Ad BC (fun t=>t.name.length<1000000∧t.loc.length<1000000) Ai.may
theorem K_135:Am env 135 S_135:=kc1 (lm:=L_47) (lt:=[]) A7 M_47 A9 dR fun t h=>by
 obtain ⟨σ,e⟩:=kK (call:=AV env pu (AQ L_47) (AU []) 1) (k:=2000000) (fun s τ h=>AL.c1 (aq L_47 114 S_114 rfl) (x:=s) h τ) (fun n τ=>AL.c1 (aq L_47 134 S_134 rfl) (x:=n) trivial τ) t h
 exact ⟨1,2000000,_,σ,e,Bf (t:=BC)⟩
def L_48:LT:=(135,S_135) :: L_47
theorem M_48:MO L_48:=Ay K_135 M_47
def S_113:Ac:=BU (AA Ad) BC Ce Ch
theorem K_113:Am env 113 S_113:=kc1 (lm:=L_48) (lt:=[]) A7 M_48 A9 dE fun l h=>by
 have hl:=h.1
 obtain ⟨σ,e⟩:=nK (call:=AV env pu (AQ L_48) (AU []) 1) (k:=2000000) (fun t τ h1 h2=>AL.c1 (aq L_48 135 S_135 rfl) (x:=t) ⟨h1,h2⟩ τ) (fun n τ=>AL.c1 (aq L_48 134 S_134 rfl) (x:=n) trivial τ) l h (by omega) .empty
 exact ⟨1,2000000,_,σ,e,Bf (t:=BC)⟩
def L_49:LT:=(113,S_113) :: L_48
theorem M_49:MO L_49:=Ay K_113 M_48
def S_43:Ac:=CP (AA AC) AC Aa (fun l _=>l.length<1000000) (fun l s=>find s l)
theorem K_43:Am env 43 S_43:=kc2 (lm:=L_49) (lt:=[]) A7 M_49 A9 eU fun l s h=>by
 have e:=bO (call:=AV env pu (AQ L_49) (AU []) 1) (k:=2000000) l h (by omega) s .empty
 exact ⟨1,2000000,_,_,e,Bf (t:=Aa)⟩
def L_50:LT:=(43,S_43) :: L_49
theorem M_50:MO L_50:=Ay K_43 M_49
def S_85:Ac:=CP (AA AC) AC BC (fun l _=>l.length<1000000) (fun l s=>decide (0≤find s l))
theorem K_85:Am env 85 S_85:=kc2 (lm:=L_50) (lt:=[]) A7 M_50 A9 gQ fun l s h=>by
 have e:=Yu (call:=AV env pu (AQ L_50) (AU []) 1) (k:=2000000) (fun l s τ h=>AL.c2 (aq L_50 43 S_43 rfl) (x:=l) (y:=s) h τ) l h s .empty
 exact ⟨1,2000000,_,_,e,Bf (t:=BC)⟩
def L_51:LT:=(85,S_85) :: L_50
theorem M_51:MO L_51:=Ay K_85 M_50
def Hm:List (FuncId×CR):=[(110,t110),(82,t82),(132,t132),(131,t131),(83,t83),(133,t133)]
theorem QK:D7 env pu (AU Hm):=EF dA (EF gN (EF dO (EF dN (EF gO (EF dP A9)))))
theorem Nn {lm:List (FuncId×Ac)} (h: ∀ f,f=110∨f=82∨f=132∨f=131∨f=83∨f=133→AQ lm f=none):LD (AV env pu (AQ lm) (AU Hm) (2000000+1+1+1)) where
 idxVar l b s σ hl hn:=by
  rw [Dw (t:=t110) (h _ (by simp)) (by kernel_rfl) (by kernel_rfl) rfl]
  refine TE _ (fun v b s σ hn=>?_) l hl (by omega) b s σ hn
  rw [Dw (t:=t131) (h _ (by simp)) (by kernel_rfl) (by kernel_rfl) rfl]
  exact iA v b s σ hn
 hasVar l b s σ hl hn:=by
  rw [Dw (t:=t82) (h _ (by simp)) (by kernel_rfl) (by kernel_rfl) rfl]
  have key: ∃ σ',AV env pu (AQ lm) (AU Hm) (2000000+1+1) 110 [(AA BF).enc l,.fn 83 [.ptr b 0 0]] σ=some (.int .i64 (find s (l.map (·.name))),σ')∧Ci σ σ':=by
   rw [Dw (t:=t110) (h _ (by simp)) (by kernel_rfl) (by kernel_rfl) rfl]
   refine TE _ (fun v b s σ hn=>?_) l hl (by omega) b s σ hn
   rw [Dw (t:=t83) (h _ (by simp)) (by kernel_rfl) (by kernel_rfl) rfl]
   exact gZ v b s σ hn
  obtain ⟨σ',e1,e2⟩:=key
  exact ⟨σ',Yt e1,e2⟩
 idxProc l b s σ hl hn:=by
  rw [Dw (t:=t132) (h _ (by simp)) (by kernel_rfl) (by kernel_rfl) rfl]
  refine bE _ (fun v b s σ hn=>?_) l hl (by omega) b s σ hn
  rw [Dw (t:=t133) (h _ (by simp)) (by kernel_rfl) (by kernel_rfl) rfl]
  exact bX v b s σ hn
theorem lF: ∀ f,f=110∨f=82∨f=132∨f=131∨f=83∨f=133→AQ L_51 f=none:=by
 rintro f (rfl | rfl | rfl | rfl | rfl | rfl)<;>kernel_rfl
def S_111:Ac:=CP AX AC Aa (fun m _=>A8 m) (fun m s=>m.variable s)
theorem K_111:Am env 111 S_111:=kc2 (lm:=L_51) (lt:=Hm) A7 M_51 QK dB fun m s h=>by
 obtain ⟨σ,e⟩:=sF (Nn lF) (k:=2000000) m s h
 exact ⟨_,2000000,_,σ,e,Bf (t:=Aa)⟩
def L_52:LT:=(111,S_111) :: L_51
theorem M_52:MO L_52:=Ay K_111 M_51
theorem lG: ∀ f,f=110∨f=82∨f=132∨f=131∨f=83∨f=133→AQ L_52 f=none:=by
 rintro f (rfl | rfl | rfl | rfl | rfl | rfl)<;>kernel_rfl
def S_112:Ac:=Jj AX AC AC (D6 Aa Aa) (fun m _ _=>A8 m) (fun m s q=>(m.process s,m.place (m.process s) q))
theorem K_112:Am env 112 S_112:=kc3 (lm:=L_52) (lt:=Hm) A7 M_52 QK dC fun m s q h=>by
 obtain ⟨σ,e⟩:=lZ (Nn lG) (k:=2000000) (fun l s τ h=>AL.c2 (show AL env (AV env pu (AQ L_52) (AU Hm) (2000000+1+1+1)) 43 S_43 from BP rfl (by omega)) (x:=l) (y:=s) h τ) m s q h
 exact ⟨_,2000000,_,σ,e,Bf (t:=D6 Aa Aa) (x:=(m.process s,m.place (m.process s) q))⟩
def L_53:LT:=(112,S_112) :: L_52
theorem M_53:MO L_53:=Ay K_112 M_52
def S_84:Ac:=CP AX (AA Ad) BC (fun m l=>A8 m∧Ce l) AP.known
theorem K_84:Am env 84 S_84:=kc2 (lm:=L_53) (lt:=[]) A7 M_53 A9 gP fun m l h=>by
 have hl:=h.2.1
 obtain ⟨σ,e⟩:=jA (call:=AV env pu (AQ L_53) (AU []) 1) (k:=2000000) (fun m s τ h=>AL.c2 (aq L_53 111 S_111 rfl) (x:=m) (y:=s) h τ) (fun m s q τ h=>AL.c3 (aq L_53 112 S_112 rfl) (x:=m) (y:=s) (z:=q) h τ) (fun l τ h=>AL.c1 (aq L_53 113 S_113 rfl) (x:=l) h τ) m l h.1 h.2 (by omega)
 exact ⟨1,2000000,_,σ,e,Bf (t:=BC)⟩
def L_54:LT:=(84,S_84) :: L_53
theorem M_54:MO L_54:=Ay K_84 M_53
def S_86:Ac:=BU AC BC (fun s=>s.length<1000000) EU
theorem K_86:Am env 86 S_86:=kc1 (lm:=L_54) (lt:=[]) A7 M_54 A9 gR fun s h=>by
 have e:=qE (call:=AV env pu (AQ L_54) (AU []) 1) (k:=2000000) (fun s τ h=>AL.c1 (aq L_54 114 S_114 rfl) (x:=s) h τ) s h .empty
 exact ⟨1,2000000,_,_,e,Bf (t:=BC)⟩
def L_55:LT:=(86,S_86) :: L_54
theorem M_55:MO L_55:=Ay K_86 M_54
def S_87:Ac:=BU BF BC (fun _=>True) bnd
theorem K_87:Am env 87 S_87:=kc1 (lm:=L_55) (lt:=[]) A7 M_55 A9 gU fun v _=>by
 obtain ⟨σ,e⟩:=YS (AV env pu (AQ L_55) (AU []) 1) 2000000 v
 exact ⟨1,2000000,_,σ,e,Bf (t:=BC)⟩
def L_56:LT:=(87,S_87) :: L_55
theorem M_56:MO L_56:=Ay K_87 M_55
def S_81:Ac:=CP AX AC (AA AC) (fun m _=>A8 m) AP.xG
theorem K_81:Am env 81 S_81:=kc2 (lm:=L_56) (lt:=[]) A7 M_56 A9 gM fun m s h=>by
 have hl:=h.procs
 obtain ⟨v,σ,e1,e2⟩:=mD (call:=AV env pu (AQ L_56) (AU []) 1) (k:=2000000) m s h (by omega)
 exact ⟨1,2000000,v,σ,e1,e2⟩
def L_57:LT:=(81,S_81) :: L_56
theorem M_57:MO L_57:=Ay K_81 M_56
def S_88:Ac:=BU (AA AC) BC (fun l=>l.length<1000000∧∀ s∈l,s.length<1000000) GQ
theorem K_88:Am env 88 S_88:=kc1 (lm:=L_57) (lt:=[]) A7 M_57 A9 gV fun l h=>by
 have hl:=h.1
 obtain ⟨σ,e⟩:=kR (call:=AV env pu (AQ L_57) (AU []) 1) (k:=2000000) (fun s τ h=>AL.c1 (aq L_57 114 S_114 rfl) (x:=s) h τ) l h.1 h.2 (by omega)
 exact ⟨1,2000000,_,σ,e,Bf (t:=BC)⟩
def L_58:LT:=(88,S_88) :: L_57
theorem M_58:MO L_58:=Ay K_88 M_57
def S_65:Ac:=BU AX BC A8 JY
theorem K_65:Am env 65 S_65:=kc1 (lm:=L_58) (lt:=[]) A7 M_58 A9 fQ fun m h=>by
 have l1:=h.vars;have l2:=h.procs
 have hB:AL env (AV env pu (AQ L_58) (AU []) 1) 87 S_87:=BP rfl (Nat.le_refl 1)
 have hN:AL env (AV env pu (AQ L_58) (AU []) 1) 88 S_88:=BP rfl (Nat.le_refl 1)
 obtain ⟨σ,e⟩:=kP (call:=AV env pu (AQ L_58) (AU []) 1) (k:=2000000) ⟨fun v τ=>AL.c1 hB (x:=v) trivial τ,fun v l τ hv h1 h2=>AL.f1 hN (x:=l) ⟨h1,h2⟩ hv (.inr rfl)⟩ m h (by omega) (by omega)
 exact ⟨1,2000000,_,σ,e,Bf (t:=BC)⟩
def L_59:LT:=(65,S_65) :: L_58
theorem M_59:MO L_59:=Ay K_65 M_58
theorem lH: ∀ f,f=110∨f=82∨f=132∨f=131∨f=83∨f=133→AQ L_59 f=none:=by
 rintro f (rfl | rfl | rfl | rfl | rfl | rfl)<;>kernel_rfl
def S_64:Ac:=CP AX BJ BC (fun m t=>A8 m∧DT t) AP.rightT
theorem K_64:Am env 64 S_64:=kc2 (lm:=L_59) (lt:=Hm) A7 M_59 QK fP fun m t h=>by
 have hl:=h.2.2.2.2.2.2.1
 have q: ∀ {f g},AQ L_59 f=some g→AL env (AV env pu (AQ L_59) (AU Hm) (2000000+1+1+1)) f g:=fun h=>BP h (by omega)
 obtain ⟨σ,e⟩:=kN (Nn lH) ⟨fun m s τ h=>AL.c2 (show AL env _ 81 S_81 from q rfl) (x:=m) (y:=s) h τ,fun l s τ h=>AL.c2 (show AL env _ 85 S_85 from q rfl) (x:=l) (y:=s) h τ,fun m l τ h1 h2=>AL.c2 (show AL env _ 84 S_84 from q rfl) (x:=m) (y:=l) ⟨h1,h2⟩ τ,fun s τ h=>AL.c1 (show AL env _ 86 S_86 from q rfl) (x:=s) h τ⟩ (k:=2000000) m t h.1 h.2 (by omega)
 exact ⟨_,2000000,_,σ,e,Bf (t:=BC)⟩
def L_60:LT:=(64,S_64) :: L_59
theorem M_60:MO L_60:=Ay K_64 M_59
def S_36:Ac:=BU AX BC A8 AP.right
theorem K_36:Am env 36 S_36:=kc1 (lm:=L_60) (lt:=[]) A7 M_60 A9 eT fun m h=>by
 have hl:=h.trans
 obtain ⟨σ,e⟩:=nL (call:=AV env pu (AQ L_60) (AU []) 1) (k:=2000000) (fun m t τ h1 h2=>AL.c2 (aq L_60 64 S_64 rfl) (x:=m) (y:=t) ⟨h1,h2⟩ τ) (fun m τ h=>AL.c1 (aq L_60 65 S_65 rfl) (x:=m) h τ) m h (by omega)
 exact ⟨1,2000000,_,σ,e,Bf (t:=BC)⟩
def L_61:LT:=(36,S_36) :: L_60
theorem M_61:MO L_61:=Ay K_36 M_60
def S_12:Ac:=CP AX Bt BC (fun m s=>A8 m∧Ej s) (fun m s=>m.right&&m.fits s)
theorem K_12:Am env 12 S_12:=kc2 (lm:=L_61) (lt:=[]) A7 M_61 A9 dH fun m s h=>by
 have l1:=h.1.vars;have l2:=h.1.procs
 obtain ⟨σ,e⟩:=pJ (call:=AV env pu (AQ L_61) (AU []) 1) (k:=2000000) (fun m τ h=>AL.c1 (aq L_61 36 S_36 rfl) (x:=m) h τ) m s h.1 h.2 (by omega) (by omega)
 exact ⟨1,2000000,_,σ,e,Bf (t:=BC)⟩
def L_62:LT:=(12,S_12) :: L_61
theorem M_62:MO L_62:=Ay K_12 M_61
def S_13:Ac:=Jj AX Bt AC AC (fun m s _=>A8 m∧Ej s) FE
theorem K_13:Am env 13 S_13:=kc3 (lm:=L_62) (lt:=[]) A7 M_62 A9 dM fun m s q h=>by
 have l2:=h.1.procs
 obtain ⟨σ,e⟩:=pH (call:=AV env pu (AQ L_62) (AU []) 1) (k:=2000000) (fun m s τ h1 h2=>AL.c2 (aq L_62 12 S_12 rfl) (x:=m) (y:=s) ⟨h1,h2⟩ τ) m s q h.1 h.2 (by omega)
 exact ⟨1,2000000,_,σ,e,Bf (t:=AC)⟩
def L_63:LT:=(13,S_13) :: L_62
theorem M_63:MO L_63:=Ay K_13 M_62
def S_34:Ac:=BU Aa AC (fun n=>-999≤n∧n≤999) BZ
theorem K_34:Am env 34 S_34:=iJ
def L_64:LT:=(34,S_34) :: L_63
theorem M_64:MO L_64:=Ay K_34 M_63
def S_35:Ac:=CP (AA AC) AC AC (fun l sep=>l.length≤7∧(∀ s∈l,s.length≤8)∧sep=[32]) (fun l _=>DV [32] l)
theorem K_35:Am env 35 S_35:=iL
def L_65:LT:=(35,S_35) :: L_64
theorem M_65:MO L_65:=Ay K_35 M_64
def S_11:Ac:=CP AX Bt AC (fun m s=>A8 m∧Ej s) GW
theorem K_11:Am env 11 S_11:=kc2 (lm:=L_65) (lt:=[]) A7 M_65 A9 cZ fun m s h=>by
 have l2:=h.1.procs
 have l3:=h.2.2
 have hJ:AL env (AV env pu (AQ L_65) (AU []) 1) 35 S_35:=BP rfl (Nat.le_refl 1)
 obtain ⟨σ,e⟩:=pI (call:=AV env pu (AQ L_65) (AU []) 1) (k:=2000000) (fun m s τ h1 h2=>AL.c2 (aq L_65 12 S_12 rfl) (x:=m) (y:=s) ⟨h1,h2⟩ τ) (fun n τ h1 h2=>AL.c1 (aq L_65 34 S_34 rfl) (x:=n) ⟨h1,h2⟩ τ) (fun v l τ hv h1 h2=>AL.f2 hJ (x:=l) (y:=[32]) ⟨h1,h2,rfl⟩ (Z5 hv) (.inr rfl)) m s h.1 h.2 (by omega) (by omega)
 exact ⟨1,2000000,_,σ,e,Bf (t:=AC)⟩
def L_66:LT:=(11,S_11) :: L_65
theorem M_66:MO L_66:=Ay K_11 M_65
def S_14:Ac:=BU AC (D6 Aa BC) (fun s=>s.length<1000000) (fun s=>amount s true)
theorem K_14:Am env 14 S_14:=kc1 (lm:=L_66) (lt:=[]) A7 M_66 A9 dV fun s h=>by
 have e:=Xl (call:=AV env pu (AQ L_66) (AU []) 1) (k:=2000000) (fun s g τ h=>AL.c2 (aq L_66 37 S_37 rfl) (x:=s) (y:=g) h τ) s h .empty
 exact ⟨1,2000000,_,_,e,Bf (t:=D6 Aa BC)⟩
def L_67:LT:=(14,S_14) :: L_66
theorem M_67:MO L_67:=Ay K_14 M_66
end
end Go.Proofs.YtglndmmlghpdpaaGreatDoor
