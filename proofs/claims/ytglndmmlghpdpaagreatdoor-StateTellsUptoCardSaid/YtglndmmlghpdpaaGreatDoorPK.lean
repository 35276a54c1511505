/-
  part 11 of the proof; no condition.
-/
import Derived.Test.YtglndmmlghpdpaaGreatDoorPJ
import Derived.Below
import Derived.Lib.LaidTab
import Derived.Shelf.Strings.Search2
import Derived.ProofKit
namespace Go.Proofs.YtglndmmlghpdpaaGreatDoor
open Go SS
set_option maxRecDepth 100000
structure LW (C:Nat->SS.Call) (l:List Int):Prop where
 next: ∀ (a:Nat) (m:Int) τ,a<1000000->0<m->m<1000->Fd τ 0 l a->∃ (r:Int) (σ:St) (a':Nat),(∀ k,1<=k->C k 73 [.ptr 0 0 0,.int .i64 m] τ=some (.int .i64 r,σ))/\0<=r/\r<m/\Fed τ σ 0 l a a'/\a'<=a+1
 guard: ∀ (a:Nat) τ,a<900000->Fd τ 0 l a->∃ (s:B) (σ:St) (a':Nat),(∀ k,2<=k->C k 74 [.ptr 0 0 0] τ=some (.str s,σ))/\Bh s/\s.length<=20/\Fed τ σ 0 l a a'/\a'<=a+2
 small: ∀ (a:Nat) τ,a<900000->Fd τ 0 l a->∃ (s:B) (σ:St) (a':Nat),(∀ k,2<=k->C k 76 [.ptr 0 0 0] τ=some (.str s,σ))/\Bh s/\s.length<=20/\Fed τ σ 0 l a a'/\a'<=a+3
 expr: ∀ (a:Nat) τ,a<500000->Fd τ 0 l a->∃ (K:Nat) (s:B) (σ:St) (a':Nat),(∀ k,K<=k->C k 75 [.ptr 0 0 0,.int .i64 2] τ=some (.str s,σ))/\Bh s/\s.length<=1000/\Fed τ σ 0 l a a'/\a'<=a+1000
theorem SN (a b c:B):CD env 91 [(0,(V.str a)),(1,(V.str b)),(2,(V.str c))]=some (.agg [.str a,.str b,.str c]):=by kernel_rfl
theorem Tc (a b c:B) (n:Nat) (hn:n<3): ∃ s,s∈[a,b,c]/\Cn env 91 (.agg [.str a,.str b,.str c]) (.int .i64 (n:Int))=some (.str s):=by
 have:n=0\/n=1\/n=2:=by omega
 rcases this with rfl | rfl | rfl
 ·exact ⟨a,by simp,by kernel_rfl⟩
 ·exact ⟨b,by simp,by kernel_rfl⟩
 ·exact ⟨c,by simp,by kernel_rfl⟩
set_option maxHeartbeats 8000000 in
theorem vX {C:Nat->SS.Call} {l:List Int} (hF:LW C l) {k:Nat} (hk:3<=k) (a:Nat) (ha:a<400000) (τ:St) (hq:Fd τ 0 l a) (s:B) (hs:Bh s) (hsl:s.length<=100000) (kk i:Int) (hi:i<kk) (h0:0<=i) (h9:i<100) :
 ∃ s' σ a',t52_1 (C k) k [.ptr 0 0 0,.str s,.int .i64 kk,.int .i64 i] τ=some (.norm,[.ptr 0 0 0,.str s',.int .i64 kk,.int .i64 (i+1)],σ)/\Bh s'/\s'.length<=s.length+60/\Fed τ σ 0 l a a'/\a'<=a+20:=by
 obtain ⟨r1,σ1,a1,c1,x0,x1,f1,g1⟩:=hF.next a 2 τ (by omega) (by omega) (by omega) hq;obtain ⟨e2,σ2,a2,c2,y0,y1,f2,g2⟩:=hF.small a1 σ1 (by omega) f1.1;obtain ⟨r3,σ3,a3,c3,z0,z1,f3,g3⟩:=hF.next a2 6 σ2 (by omega) (by omega) (by omega) f2.1;obtain ⟨n1,rfl⟩: ∃ n:Nat,r1=(n:Int):=⟨r1.toNat,by omega⟩
 obtain ⟨v,hv10,hix,hld⟩:=LB n1 (by omega);have c1:=c1 k (by omega);have c2:=c2 k (by omega);have c3:=c3 k (by omega);have hi':=eq_true hi;generalize hw:t52_1 (C k) k [.ptr 0 0 0,.str s,.int .i64 kk,.int .i64 i] τ=w;unfold t52_1 t52_0 at hw;have pre:Bh (s++[32,59,32]++[v]++[32,61,32]):=((hs.app (BP (by decide))).app (EE hv10)).app (BP (by decide));by_cases h30:r3=0
 ·have h30':=eq_true h30;simp (disch:=try exact dD _) only [↓reduceIte,↓rK,rP,hi',c1,hix,hld,c2,c3,h30'] at hw;exact ⟨_,σ3,a3,hw.symm,pre.app y0,by simp;omega,(f1.trans f2).trans f3,by omega⟩
 ·have h30':=eq_false h30;by_cases h31:r3=1
  ·have h31':=eq_true h31;simp (disch:=try exact dD _) only [↓reduceIte,↓rK,rP,hi',c1,hix,hld,c2,c3,h30',h31'] at hw;exact ⟨_,σ3,a3,hw.symm,pre.app (BP (by decide)),by simp<;>omega,(f1.trans f2).trans f3,by omega⟩
  ·have h31':=eq_false h31;obtain ⟨r4,σ4,a4,c4,u0,u1,f4,g4⟩:=hF.next a3 2 σ3 (by omega) (by omega) (by omega) f3.1;obtain ⟨r5,σ5,a5,c5,w0,w1,f5,g5⟩:=hF.next a4 3 σ4 (by omega) (by omega) (by omega) f4.1;obtain ⟨n4,rfl⟩: ∃ n:Nat,r4=(n:Int):=⟨r4.toNat,by omega⟩
   obtain ⟨n5,rfl⟩: ∃ n:Nat,r5=(n:Int):=⟨r5.toNat,by omega⟩
   obtain ⟨u,hu10,hix2,hld2⟩:=LB n4 (by omega);have hbr:V.beq (.str [u]) (.str [u])=true:=V.beq_refl _;obtain ⟨e,he1,he2⟩:=Tc ([49,45,40]++[v]++[61,61,49,41]) ([40]++[v]++[60,49,41]) ([40]++[u]++[61,61,48,41]) n5 (by omega);have c4:=c4 k (by omega);have c5:=c5 k (by omega);have hec:Bh e/\e.length<=20:=by
    simp only [List.mem_cons,List.not_mem_nil,or_false] at he1;rcases he1 with rfl | rfl | rfl
    ·exact ⟨((BP (by decide)).app (EE hv10)).app (BP (by decide)),by simp⟩
    ·exact ⟨((BP (by decide)).app (EE hv10)).app (BP (by decide)),by simp⟩
    ·exact ⟨((BP (by decide)).app (EE hu10)).app (BP (by decide)),by simp⟩
   simp (disch:=try exact dD _) only [↓reduceIte,↓rK,rP,hi',c1,hix,hld,c2,c3,h30',h31',c4,hix2,hld2,SN,c5,hbr,he2] at hw;exact ⟨_,σ5,a5,hw.symm,pre.app hec.1,by have:=hec.2;simp;omega,(((f1.trans f2).trans f3).trans f4).trans f5,by omega⟩
theorem Vu:CD env 119 [(0,(V.str [45])),(1,(V.str [45])),(2,(V.str [45])),(3,(V.str [45])),(4,(V.str [99,33])),(5,(V.str [99,63])),(6,(V.str [100,33])),(7,(V.str [99,63]))] =
 some (.agg [.str [45],.str [45],.str [45],.str [45],.str [99,33],.str [99,63],.str [100,33],.str [99,63]]):=by kernel_rfl
theorem vR:CD env 120 [(0,(V.int .i64 0)),(1,(V.int .i64 1)),(2,(V.int .i64 1)),(3,(V.int .i64 2))]=some (.agg [.int .i64 0,.int .i64 1,.int .i64 1,.int .i64 2]):=by kernel_rfl
theorem vS (n:Nat) (hn:n<4): ∃ m:Int,0<=m/\m<=2/\Cn env 120 (.agg [.int .i64 0,.int .i64 1,.int .i64 1,.int .i64 2]) (.int .i64 (n:Int))=some (.int .i64 m):=by
 have:n=0\/n=1\/n=2\/n=3:=by omega
 rcases this with rfl | rfl | rfl | rfl
 ·exact ⟨0,by decide,by decide,by kernel_rfl⟩
 ·exact ⟨1,by decide,by decide,by kernel_rfl⟩
 ·exact ⟨1,by decide,by decide,by kernel_rfl⟩
 ·exact ⟨2,by decide,by decide,by kernel_rfl⟩
theorem Sz (l:List Int):V.cellsF (.agg [(AA AJ).enc l,.int .i64 0])=[(AA AJ).enc l,.int .i64 0]:=by rw [V.zAb];rfl
theorem V7 {C:Nat->SS.Call} {l:List Int} (hF:LW C l) {k:Nat} (hk:10<=k) (a:Nat) (ha:a<300000) (τ:St) (hq:Fd τ 0 l a) (s g:B) (hs:Bh s) (hg:Bh g) (hsl:s.length<=100) (hgl:g.length<=1000) :
 ∃ s' σ,t52_3 (C k) k [.ptr 0 0 0,.str s,.str g] τ=some (.ret,[.str s'],σ)/\Bh s'/\s'.length<=2000:=by
 obtain ⟨r1,σ1,a1,c1,x0,x1,f1,g1⟩:=hF.next a 4 τ (by omega) (by omega) (by omega) hq;obtain ⟨n1,rfl⟩: ∃ n:Nat,r1=(n:Int):=⟨r1.toNat,by omega⟩
 obtain ⟨m,m0,m2,hm⟩:=vS n1 (by omega);have c1:=c1 k (by omega)
 obtain ⟨e,vs',σ,q1,q2,q3⟩:=Bl (P:=t52_1 (C k) k) (Inv:=λr vs τ=>∃ (i:Nat) (s':B) (a':Nat),r+i=m.toNat/\vs=[.ptr 0 0 0,.str s',.int .i64 m,.int .i64 (i:Int)]/\Bh s'/\s'.length<=1100+60*i/\Fd τ 0 l a'/\a'<=a+1+20*i)
  (Q:=λy=>y.1=.exit 0/\∃ s',y.2.1=[.str s']/\Bh s'/\s'.length<=2000)
  (by
    rintro r vs τ ⟨i,s',a',hr,rfl,h1,h2,h3,h4⟩
    by_cases hi:(i:Int)<m
    ·obtain ⟨s2,σ,a2,f1,f2,f3,f4,f5⟩:=vX hF (k:=k) (by omega) a' (by omega) τ h3 s' h1 (by omega) m (i:Int) hi (by omega) (by omega);exact .inl ⟨r - 1,_,σ,by omega,f1,i+1,s2,a2,by omega,rfl,f2,by omega,f4.1,by omega⟩
    ·have hi':=eq_false hi;refine .inr ⟨.exit 0,[.str s'],τ,?_,(by intro h;cases h),rfl,s',rfl,h1,by omega⟩;unfold t52_1;simp (disch:=try exact dD _) only [↓reduceIte,↓rK,rP,hi'])
  m.toNat k [.ptr 0 0 0,.str (s++g),.int .i64 m,.int .i64 0] σ1 (by omega) ⟨0,s++g,a1,by omega,rfl,hs.app hg,by simp;omega,f1.1,by omega⟩
 obtain ⟨q3,s',q4,q5,q6⟩:=q3;simp only at q3 q4;subst q3 q4;refine ⟨s',σ,?_,q5,q6⟩;unfold t52_3 t52_2;simp (disch:=try exact dD _) only [↓rK,rP,vR,c1,hm,q1]
set_option maxHeartbeats 32000000 in
theorem vY {C:Nat->SS.Call} {l:List Int} (hF:LW C l) (n:Int) (h0:0<n) (h3:n<=3) :
 ∃ k s σ,t52 (C k) k [(AA AJ).enc l,.int .i64 n] .empty=some (.str s,σ)/\Bh s/\s.length<=2000:=by
 have hq:Fd (St.empty.new (.blk [(AA AJ).enc l,.int .i64 0] 116 0 false)) 0 l 0:=rfl;generalize hτ:St.empty.new (.blk [(AA AJ).enc l,.int .i64 0] 116 0 false)=τ at hq;obtain ⟨r1,σ1,a1,c1,x0,x1,f1,g1⟩:=hF.next 0 n τ (by omega) (by omega) (by omega) hq;obtain ⟨r2,σ2,a2,c2,y0,y1,f2,g2⟩:=hF.next a1 3 σ1 (by omega) (by omega) (by omega) f1.1;obtain ⟨r3,σ3,a3,c3,z0,z1,f3,g3⟩:=hF.next a2 3 σ2 (by omega) (by omega) (by omega) f2.1;obtain ⟨r4,σ4,a4,c4,w0,w1,f4,g4⟩:=hF.next a3 8 σ3 (by omega) (by omega) (by omega) f3.1;obtain ⟨gd,σ5,a5,c5,u0,u1,f5,g5⟩:=hF.guard a4 σ4 (by omega) f4.1;obtain ⟨r6,σ6,a6,c6,t0,t1,f6,g6⟩:=hF.next a5 9 σ5 (by omega) (by omega) (by omega) f5.1;obtain ⟨K,e7,σ7,a7,c7,p0,p1,f7,g7⟩:=hF.expr a6 σ6 (by omega) f6.1;obtain ⟨n1,rfl⟩: ∃ n:Nat,r1=(n:Int):=⟨r1.toNat,by omega⟩
 obtain ⟨n2,rfl⟩: ∃ n:Nat,r2=(n:Int):=⟨r2.toNat,by omega⟩
 obtain ⟨n3,rfl⟩: ∃ n:Nat,r3=(n:Int):=⟨r3.toNat,by omega⟩
 obtain ⟨n4,rfl⟩: ∃ n:Nat,r4=(n:Int):=⟨r4.toNat,by omega⟩
 obtain ⟨p,hp10,hpx,hpd⟩:=Ux n1 (by omega);obtain ⟨b,hb10,hbx,hbd⟩:=Pg n2 (by omega);obtain ⟨c,hc10,hcx,hcd⟩:=Pg n3 (by omega);obtain ⟨sy,hs1,hs2⟩:=Td [45] [45] [45] [45] [99,33] [99,63] [100,33] [99,63] n4 (by omega);have hsy:Bh sy/\sy.length<=2:=by
  simp only [List.mem_cons,List.not_mem_nil,or_false] at hs1;rcases hs1 with rfl | rfl | rfl | rfl | rfl | rfl | rfl | rfl<;>exact ⟨BP (by decide),by simp⟩
 have hbp:V.beq (.str [p]) (.str [p])=true:=V.beq_refl _;have hbb:V.beq (.str [b]) (.str [b])=true:=V.beq_refl _;have hbc:V.beq (.str [c]) (.str [c])=true:=V.beq_refl _;have hsyl:=hsy.2;obtain ⟨k,hk⟩: ∃ k,k=K+10:=⟨_,rfl⟩
 have pre:Bh ([p]++[32]++[b]++[32]++[c]++[32]++sy++[32]):=((((((((EE hp10).app (BP (by decide))).app (EE hb10)).app (BP (by decide))).app (EE hc10)).app (BP (by decide))).app hsy.1).app (BP (by decide)))
 have hpl:([p]++[32]++[b]++[32]++[c]++[32]++sy++[32]).length<=100:=by simp;omega
 have c1:=c1 k (by omega);have c2:=c2 k (by omega);have c3:=c3 k (by omega);have c4:=c4 k (by omega);have c5:=c5 k (by omega);have c6:=c6 k (by omega);have c7:=c7 k (by omega);obtain ⟨w,hw⟩: ∃ w,t52 (C k) k [(AA AJ).enc l,.int .i64 n] .empty=w:=⟨_,rfl⟩
 refine ⟨k,?_⟩;rw [hw];unfold t52 at hw;by_cases h68:r6=8
 ·have h68':=eq_true h68;obtain ⟨s',σ,e1,e2,e3⟩:=V7 hF (k:=k) (by omega) a7 (by omega) σ7 f7.1 _ e7 pre p0 hpl p1;simp (disch:=try exact dD _) only [↓reduceIte,↓rK,rP,AL,↓BA,BA,Sz,hτ,c1,hpx,hpd,c2,hbp,hbx,hbd,c3,hbb,hcx,hcd,Vu,c4,hbc,hs2,c5,c6,h68',c7,e1] at hw;exact ⟨_,_,hw.symm,e2,e3⟩
 ·have h68':=eq_false h68;obtain ⟨s',σ,e1,e2,e3⟩:=V7 hF (k:=k) (by omega) a6 (by omega) σ6 f6.1 _ gd pre u0 hpl (by omega);simp (disch:=try exact dD _) only [↓reduceIte,↓rK,rP,AL,↓BA,BA,Sz,hτ,c1,hpx,hpd,c2,hbp,hbx,hbd,c3,hbb,hcx,hcd,Vu,c4,hbc,hs2,c5,c6,h68',e1] at hw;exact ⟨_,_,hw.symm,e2,e3⟩
structure Raw where
 procs:Int
 vars:Int
 trans:List (List Int)
def EP:Ty Raw where
 enc x:=.agg [.int .i64 x.procs,.int .i64 x.vars,(AA (AA AJ)).enc x.trans]
 inj a b h:=by
  cases a;cases b;simp only [V.agg.injEq,List.cons.injEq,V.int.injEq,true_and,and_true] at h;obtain ⟨h1,h2,h3⟩:=h;have h3:=(AA (AA AJ)).inj _ _ h3;simp_all
 zero a:=by rw [E5,BM,BM,BM,(AA (AA AJ)).zero];rfl
theorem Mi (x:Raw):V.cellsF (EP.enc x)=[.int .i64 x.procs,.int .i64 x.vars,(AA (AA AJ)).enc x.trans]:=by rw [V.zAb];rfl
def Q3 (L:B):Prop:=(∃ r,L=[118,97,114,32]++r)\/(∃ r,L=[116,114,97,110,115,32]++r)\/∃ (p:UInt8) (r:B),(p=112\/p=113\/p=114)/\L=[112,114,111,99,32,p,32]++r
def DB (s:B) (n:Nat):Prop:=∃ ls:List B,s=ls.flatMap (·++[10])/\(∀ L∈ls,Q3 L/\Bh L/\L.length<=3000)/\ls.length<=n
theorem DB.add {s:B} {n:Nat} (h:DB s n) {L:B} (h1:Q3 L) (h2:Bh L) (h3:L.length<=3000):DB (s++L++[10]) (n+1):=by
 obtain ⟨ls,rfl,g1,g2⟩:=h;refine ⟨ls++[L],by simp,λx hx=>?_,by simp;omega⟩;rcases List.mem_append.1 hx with hx | hx
 ·exact g1 x hx
 ·rw [List.mem_singleton.1 hx];exact ⟨h1,h2,h3⟩
theorem DB.len {s:B} {n:Nat} (h:DB s n):s.length<=n*3001:=by
 obtain ⟨ls,rfl,g1,g2⟩:=h;have: ∀ ls:List B,(∀ L∈ls,L.length<=3000)->(ls.flatMap (·++[10])).length<=ls.length*3001:=by
  intro ls
  induction ls with
  | nil=>simp
  | cons L r ih =>
   intro h;have h1:=ih λx hx=>h x (by simp [hx])
   have h2:=h L (by simp);have e:(L++[10]).length=L.length+1:=by simp
   rw [List.flatMap_cons,List.length_append,e,List.length_cons];omega
 have:=this ls λL hL=>(g1 L hL).2.2
 omega
theorem Zx (d:Nat) (h:d<10):UInt8.ofNat (48+d)≠10:=by
 have:d=0\/d=1\/d=2\/d=3\/d=4\/d=5\/d=6\/d=7\/d=8\/d=9:=by omega
 rcases this with rfl | rfl | rfl | rfl | rfl | rfl | rfl | rfl | rfl | rfl<;>decide
theorem Zq (n:Int) (h1:0<=n) (h2:n<=999):Bh (BK n):=by
 obtain ⟨ds,g1,_,_,g4,_⟩:=Me n.toNat (by omega);unfold BK;rw [if_neg (by omega),g4];intro c hc;obtain ⟨d,hd,rfl⟩:=List.mem_map.1 hc;exact Zx d (g1 d hd)
theorem qF (n:Nat) (hn:n<3): ∃ v:UInt8,(v=112\/v=113\/v=114)/\indexAt env 91 (.gptr 1 0) (.int .i64 (n:Int))=some (.gptr 1 n)/\∀ (σ:St) (K:V->Option (AEx×List V×St)),ld1 env (.gptr 1 n) 0 σ K=K (.str [v]):=by
 have hv: ∃ v:UInt8,(v=112\/v=113\/v=114)/\([.str [112],.str [113],.str [114]]:List V)[n]? = some (.str [v]):=by
  have:n=0\/n=1\/n=2:=by omega
  rcases this with rfl | rfl | rfl
  ·exact ⟨112,by decide,rfl⟩
  ·exact ⟨113,by decide,rfl⟩
  ·exact ⟨114,by decide,rfl⟩
 obtain ⟨v,hv10,hvg⟩:=hv;refine ⟨v,hv10,?_,λσ K=>H6 (n:=0) (off:=n) Uy hvg rfl σ K⟩;have:=J5 (g:=1) (off:=0) LC GJ (n:=n) (by omega);rw [this];simp
theorem wX (n:Nat) (hn:n<3): ∃ v:UInt8,v≠10/\indexAt env 91 (.gptr 0 0) (.int .i64 (n:Int))=some (.gptr 0 n)/\∀ (σ:St) (K:V->Option (AEx×List V×St)),ld1 env (.gptr 0 n) 0 σ K=K (.str [v]):=by
 have hv: ∃ v:UInt8,v≠10/\([.str [120],.str [121],.str [122]]:List V)[n]? = some (.str [v]):=by
  have:n=0\/n=1\/n=2:=by omega
  rcases this with rfl | rfl | rfl
  ·exact ⟨120,by decide,rfl⟩
  ·exact ⟨121,by decide,rfl⟩
  ·exact ⟨122,by decide,rfl⟩
 obtain ⟨v,hv10,hvg⟩:=hv;refine ⟨v,hv10,?_,λσ K=>H6 (n:=0) (off:=n) Qg hvg rfl σ K⟩;have:=J5 (g:=0) (off:=0) LC GJ (n:=n) (by omega);rw [this];simp
theorem Yh (a b:B):CD env 92 [(0,(V.str a)),(1,(V.str b))]=some (.agg [.str a,.str b]):=by kernel_rfl
theorem Ta (a b:B) (n:Nat) (hn:n<2): ∃ s,s∈[a,b]/\Cn env 92 (.agg [.str a,.str b]) (.int .i64 (n:Int))=some (.str s):=by
 have:n=0\/n=1:=by omega
 rcases this with rfl | rfl
 ·exact ⟨a,by simp,by kernel_rfl⟩
 ·exact ⟨b,by simp,by kernel_rfl⟩
theorem Fb {R:Type} {y:Int} (x:Int) (K:Int->Option R) (hy:y≠0):CZ 9223372036854775807 .i64 x y K=K (IntKind.i64.wrap (x.tdiv y)):=Mh (mx:=9223372036854775807) (k:=.i64) rfl hy K
structure LP (call:SS.Call) (tr:List Int->Int->B):Prop where
 pick: ∀ (n m:Int) τ,0<m->m<1000000000->call 33 [.int .i64 n,.int .i64 m] τ=some (.int .i64 (CF n m),τ)
 decimal: ∀ (n:Int) τ,0<=n->n<=999->call 51 [.int .i64 n] τ=some (.str (BK n),τ)
 trans: ∀ (l:List Int) (n:Int) τ,0<n->n<=3->call 52 [(AA AJ).enc l,.int .i64 n] τ=some (.str (tr l n),τ)
 clean: ∀ l n,0<n->n<=3->Bh (tr l n)/\(tr l n).length<=2000
set_option maxHeartbeats 8000000 in
theorem vQ {call:SS.Call} {tr:List Int->Int->B} (h:LP call tr) {k:Nat} (hk:10<k) (x:Raw) (τ:St) (hx:τ.get 0=some (.blk [.int .i64 x.procs,.int .i64 x.vars,(AA (AA AJ)).enc x.trans] 24 0 false)) :
 ∃ s,Ai (t28_0 call k) k [.ptr 0 0 0,.str [],.int .i64 0] τ=some (.exit 0,[.ptr 0 0 0,.str s],τ)/\DB s 3:=by
 have hp:=h.pick;obtain ⟨b0,b1⟩:=Er x.vars 2 (by omega);have hb:=λτ=>hp x.vars 2 τ (by omega) (by omega)
 generalize CF x.vars 2=bd at *
 obtain ⟨e,vs',σ,q1,q2,q3⟩:=Bl (P:=t28_0 call k) (Inv:=λr vs σ=>∃ (i:Nat) (s:B),r+i=(2+bd).toNat/\vs=[.ptr 0 0 0,.str s,.int .i64 (i:Int)]/\σ=τ/\DB s i)
  (Q:=λy=>y.1=.exit 0/\y.2.2=τ/\∃ s,y.2.1=[.ptr 0 0 0,.str s]/\DB s 3)
  (by
    rintro r vs σ ⟨i,s,hr,rfl,rfl,ht⟩
    generalize hw:t28_0 call k [.ptr 0 0 0,.str s,.int .i64 (i:Int)] σ=w;unfold t28_0 at hw;have hlen:=ht.len;by_cases hi:(i:Int)<2+bd
    ·have hi':=eq_true hi;obtain ⟨v,hv10,hix,hld⟩:=wX i (by omega);have hq7:=λ(K:Int->Option (AEx×List V×St))=>Fb (y:=7) x.vars K (by decide)
     have hq2:=λ(K:Int->Option (AEx×List V×St))=>Fb (y:=2+(i:Int)) x.vars K (by omega)
     have hq5:=λ(K:Int->Option (AEx×List V×St))=>Fb (y:=5+(i:Int)) x.vars K (by omega)
     obtain ⟨u0,u1⟩:=Er (IntKind.i64.wrap (x.vars.tdiv 7)) 2 (by omega);obtain ⟨u2,u3⟩:=Er (IntKind.i64.wrap (x.vars.tdiv (2+(i:Int)))) 3 (by omega);obtain ⟨u4,u5⟩:=Er (IntKind.i64.wrap (x.vars.tdiv (5+(i:Int)))) 2 (by omega);have p1:=hp (IntKind.i64.wrap (x.vars.tdiv 7)) 2 σ (by omega) (by omega);have p2:=hp (IntKind.i64.wrap (x.vars.tdiv (2+(i:Int)))) 3 σ (by omega) (by omega);have p3:=hp (IntKind.i64.wrap (x.vars.tdiv (5+(i:Int)))) 2 σ (by omega) (by omega);generalize CF (IntKind.i64.wrap (x.vars.tdiv 7)) 2=m1 at *;generalize CF (IntKind.i64.wrap (x.vars.tdiv (2+(i:Int)))) 3=m2 at *;generalize CF (IntKind.i64.wrap (x.vars.tdiv (5+(i:Int)))) 2=m3 at *;obtain ⟨m1,rfl⟩: ∃ n:Nat,m1=(n:Int):=⟨m1.toNat,by omega⟩
     obtain ⟨m2,rfl⟩: ∃ n:Nat,m2=(n:Int):=⟨m2.toNat,by omega⟩
     obtain ⟨m3,rfl⟩: ∃ n:Nat,m3=(n:Int):=⟨m3.toNat,by omega⟩
     obtain ⟨s1,a1,a2⟩:=Ta [48] [45,49] m1 (by omega);obtain ⟨s2,a3,a4⟩:=Tc [49] [50] [51] m2 (by omega);obtain ⟨s3,a5,a6⟩:=Ta [48] [49] m3 (by omega);have d1:Bh s1/\s1.length<=2:=by
      simp only [List.mem_cons,List.not_mem_nil,or_false] at a1;rcases a1 with rfl | rfl<;>exact ⟨BP (by decide),by simp⟩
     have d2:Bh s2/\s2.length<=2:=by
      simp only [List.mem_cons,List.not_mem_nil,or_false] at a3;rcases a3 with rfl | rfl | rfl<;>exact ⟨BP (by decide),by simp⟩
     have d3:Bh s3/\s3.length<=2:=by
      simp only [List.mem_cons,List.not_mem_nil,or_false] at a5;rcases a5 with rfl | rfl<;>exact ⟨BP (by decide),by simp⟩
     have d1l:=d1.2;have d2l:=d2.2;have d3l:=d3.2
     simp (disch:=try exact dD _) only [↓reduceIte,↓rK,rP,hx,hb,hi',hix,hld,Yh,SN,hq7,hq2,hq5,p1,p2,p3,a2,a4,a6] at hw;refine .inl ⟨r - 1,_,σ,by omega,hw.symm,i+1,_,by omega,rfl,rfl,?_⟩;have key:=ht.add (L:=[118,97,114,32]++([v]++[32]++s1++[32]++s2++[32]++s3)) (.inl ⟨_,rfl⟩) ((BP (by decide)).app ((((((((EE hv10).app (BP (by decide))).app d1.1).app (BP (by decide))).app d2.1).app (BP (by decide))).app d3.1))) (by simp;omega);simpa using key
    ·have hi':=eq_false hi;simp (disch:=try exact dD _) only [↓reduceIte,↓rK,rP,hx,hb,hi'] at hw;refine .inr ⟨_,_,σ,hw.symm,(by intro h;cases h),rfl,rfl,s,rfl,?_⟩;obtain ⟨ls,l1,l2,l3⟩:=ht;exact ⟨ls,l1,l2,by omega⟩)
  (2+bd).toNat k [.ptr 0 0 0,.str [],.int .i64 0] τ (by omega) ⟨0,[],by omega,rfl,rfl,[],rfl,by simp,by simp⟩
 obtain ⟨q3,q4,s,q5,q6⟩:=q3;simp only at q3 q4 q5;subst q3 q4 q5;exact ⟨s,q1,q6⟩
end Go.Proofs.YtglndmmlghpdpaaGreatDoor
namespace Go.Proofs.YtglndmmlghpdpaaGreatDoor
open Go SS
set_option maxRecDepth 100000
set_option maxHeartbeats 8000000 in
theorem vN {call:SS.Call} {tr:List Int->Int->B} (h:LP call tr) {k:Nat} (hk:10<k) (x:Raw) (τ:St) (hx:τ.get 0=some (.blk [.int .i64 x.procs,.int .i64 x.vars,(AA (AA AJ)).enc x.trans] 24 0 false)) (n:Int) (h0:2<=n) (h3:n<=3) (s:B) (hs:DB s 3) :
 ∃ s',Ai (t28_2 call k) k [.ptr 0 0 0,.str s,.int .i64 n,.int .i64 0] τ=some (.exit 2,[.ptr 0 0 0,.str s',.int .i64 n],τ)/\DB s' 6:=by
 have hp:=h.pick
 obtain ⟨e,vs',σ,q1,q2,q3⟩:=Bl (P:=t28_2 call k) (Inv:=λr vs σ=>∃ (i:Nat) (s:B),r+i=n.toNat/\vs=[.ptr 0 0 0,.str s,.int .i64 n,.int .i64 (i:Int)]/\σ=τ/\DB s (3+i))
  (Q:=λy=>y.1=.exit 2/\y.2.2=τ/\∃ s,y.2.1=[.ptr 0 0 0,.str s,.int .i64 n]/\DB s 6)
  (by
    rintro r vs σ ⟨i,s,hr,rfl,rfl,ht⟩
    generalize hw:t28_2 call k [.ptr 0 0 0,.str s,.int .i64 n,.int .i64 (i:Int)] σ=w;unfold t28_2 t28_1 at hw;have hlen:=ht.len;by_cases hi:(i:Int)<n
    ·have hi':=eq_true hi;obtain ⟨v,hv,hix,hld⟩:=qF i (by omega);have hv10:v≠10:=by rcases hv with rfl | rfl | rfl<;>decide
     have hq2:=λ(K:Int->Option (AEx×List V×St))=>Fb (y:=2+(i:Int)) x.procs K (by omega)
     have p2:=hp (IntKind.i64.wrap (x.procs.tdiv (2+(i:Int)))) 3 σ (by omega) (by omega);generalize CF (IntKind.i64.wrap (x.procs.tdiv (2+(i:Int)))) 3=m2 at *;by_cases hm:m2=0
     ·have hm':=eq_true hm;simp (disch:=try exact dD _) only [↓reduceIte,↓rK,rP,hx,hi',hix,hld,hq2,p2,hm'] at hw;refine .inl ⟨r - 1,_,σ,by omega,hw.symm,i+1,_,by omega,rfl,rfl,?_⟩;have key:=ht.add (L:=[112,114,111,99,32,v,32]++[97,32,98,32,99,32,100]) (.inr (.inr ⟨v,_,hv,rfl⟩)) (λc hc=>by simp at hc;rcases hc with rfl | rfl | rfl | rfl | rfl | rfl | rfl | rfl | rfl | rfl | rfl | rfl | rfl | rfl<;>first | decide | exact hv10) (by simp);simpa [Nat.add_assoc] using key
     ·have hm':=eq_false hm;simp (disch:=try exact dD _) only [↓reduceIte,↓rK,rP,hx,hi',hix,hld,hq2,p2,hm'] at hw;refine .inl ⟨r - 1,_,σ,by omega,hw.symm,i+1,_,by omega,rfl,rfl,?_⟩;have key:=ht.add (L:=[112,114,111,99,32,v,32]++[97,32,98,32,99]) (.inr (.inr ⟨v,_,hv,rfl⟩)) (λc hc=>by simp at hc;rcases hc with rfl | rfl | rfl | rfl | rfl | rfl | rfl | rfl | rfl | rfl | rfl | rfl<;>first | decide | exact hv10) (by simp);simpa [Nat.add_assoc] using key
    ·have hi':=eq_false hi;simp (disch:=try exact dD _) only [↓reduceIte,↓rK,rP,hi'] at hw;refine .inr ⟨_,_,σ,hw.symm,(by intro h;cases h),rfl,rfl,s,rfl,?_⟩;obtain ⟨ls,l1,l2,l3⟩:=ht;exact ⟨ls,l1,l2,by omega⟩)
  n.toNat k [.ptr 0 0 0,.str s,.int .i64 n,.int .i64 0] τ (by omega) ⟨0,s,by omega,rfl,rfl,hs⟩
 obtain ⟨q3,q4,s,q5,q6⟩:=q3;simp only at q3 q4 q5;subst q3 q4 q5;exact ⟨s,q1,q6⟩
set_option maxHeartbeats 8000000 in
theorem vP {call:SS.Call} {tr:List Int->Int->B} (h:LP call tr) {k:Nat} (hk:20<k) (x:Raw) (τ:St) (hx:τ.get 0=some (.blk [.int .i64 x.procs,.int .i64 x.vars,(AA (AA AJ)).enc x.trans] 24 0 false)) (n:Int) (h0:2<=n) (h3:n<=3) (s:B) (hs:DB s 6) :
 ∃ s',Ai (t28_3 call k) k [.ptr 0 0 0,.str s,.int .i64 n,.int .i64 0] τ=some (.exit 4,[.str s'],τ)/\DB s' 16:=by
 have hp:=h.pick;have hd:=h.decimal;have htr:=h.trans
 obtain ⟨e,vs',σ,q1,q2,q3⟩:=Bl (P:=t28_3 call k) (Inv:=λr vs σ=>∃ (i:Nat) (s:B),r+i=10/\vs=[.ptr 0 0 0,.str s,.int .i64 n,.int .i64 (i:Int)]/\σ=τ/\DB s (6+i))
  (Q:=λy=>y.1=.exit 4/\y.2.2=τ/\∃ s,y.2.1=[.str s]/\DB s 16)
  (by
    rintro r vs σ ⟨i,s,hr,rfl,rfl,ht⟩
    generalize hw:t28_3 call k [.ptr 0 0 0,.str s,.int .i64 n,.int .i64 (i:Int)] σ=w;unfold t28_3 at hw;have hlen:=ht.len;have stop:DB s 16:=by
     obtain ⟨ls,l1,l2,l3⟩:=ht;exact ⟨ls,l1,l2,by omega⟩
    by_cases hi:i<x.trans.length
    ·have hi':=eq_true (show (i:Int)<(x.trans.length:Int) by omega);by_cases h10:i<10
     ·have h10':=eq_true (show (i:Int)<10 by omega);have d1:=hd (3*(i:Int)+1) σ (by omega) (by omega);have d2:=htr x.trans[i] n σ (by omega) h3;obtain ⟨c1,c2⟩:=h.clean x.trans[i] n (by omega) h3;have c3:=Zq (3*(i:Int)+1) (by omega) (by omega);have c4:=IW (3*(i:Int)+1) (by omega) (by omega);have hld:=λ(K:V->Option (AEx×List V×St))=>DK (σ:=σ) (t:=AA AJ) (l:=x.trans) (n:=i) (sz:=1) (off:=0) hi (v:=(AA AJ).enc x.trans[i]) (by cases x.trans[i]<;>rfl) (by cases x.trans[i]<;>rfl) (Ge _ _) K
      generalize tr x.trans[i] n=tx at *;generalize (x.trans.length:Int)=N at *;simp (disch:=try exact dD _) only [↓reduceIte,↓rK,rP,hx,h10',d1,hld,d2] at hw;refine .inl ⟨r - 1,_,σ,by omega,hw.symm,i+1,_,by omega,rfl,rfl,?_⟩;have key:=ht.add (L:=[116,114,97,110,115,32]++(BK (3*(i:Int)+1)++[32]++tx)) (.inr (.inl ⟨_,rfl⟩)) ((BP (by decide)).app ((c3.app (BP (by decide))).app c1)) (by simp;omega);simpa [Nat.add_assoc] using key
     ·have h10':=eq_false (show ¬(i:Int)<10 by omega);generalize (x.trans.length:Int)=N at *;simp (disch:=try exact dD _) only [↓reduceIte,↓rK,rP,hx,h10'] at hw;exact .inr ⟨_,_,σ,hw.symm,(by intro h;cases h),rfl,rfl,s,rfl,stop⟩
    ·have hi':=eq_false (show ¬(i:Int)<(x.trans.length:Int) by omega);generalize (x.trans.length:Int)=N at *;simp (disch:=try exact dD _) only [↓reduceIte,↓rK,rP,hx] at hw;exact .inr ⟨_,_,σ,hw.symm,(by intro h;cases h),rfl,rfl,s,rfl,stop⟩)
  10 k [.ptr 0 0 0,.str s,.int .i64 n,.int .i64 0] τ (by omega) ⟨0,s,by omega,rfl,rfl,hs⟩
 obtain ⟨q3,q4,s,q5,q6⟩:=q3;simp only at q3 q4 q5;subst q3 q4 q5;exact ⟨s,q1,q6⟩
theorem vO {call:SS.Call} {tr:List Int->Int->B} (h:LP call tr) {k:Nat} (hk:20<k) (x:Raw) :
 ∃ s σ,t28 call k [EP.enc x] .empty=some (.str s,σ)/\DB s 16:=by
 have hp:=h.pick;have hx:(St.empty.new (.blk [.int .i64 x.procs,.int .i64 x.vars,(AA (AA AJ)).enc x.trans] 24 0 false)).get 0=some (.blk [.int .i64 x.procs,.int .i64 x.vars,(AA (AA AJ)).enc x.trans] 24 0 false):=rfl;generalize hτ:St.empty.new (.blk [.int .i64 x.procs,.int .i64 x.vars,(AA (AA AJ)).enc x.trans] 24 0 false)=τ at hx;obtain ⟨s1,l1,t1⟩:=vQ h (k:=k) (by omega) x τ hx;obtain ⟨u0,u1⟩:=Er x.procs 4 (by omega);have p2:=hp x.procs 4 τ (by omega) (by omega);generalize CF x.procs 4=m2 at *;have hq: ∀ (K:Int->Option (AEx×List V×St)),CZ 9223372036854775807 .i64 m2 3 K=K (IntKind.i64.wrap (m2.tdiv 3)):=λK=>Fb (y:=3) m2 K (by decide)
 have hd:0<=m2.tdiv 3/\m2.tdiv 3<=1:=by
  have:m2=0\/m2=1\/m2=2\/m2=3:=by omega
  rcases this with rfl | rfl | rfl | rfl<;>decide
 rw [J2 (by omega) (by omega)] at hq;obtain ⟨s2,l2,t2⟩:=vN h (k:=k) (by omega) x τ hx (2+m2.tdiv 3) (by omega) (by omega) s1 t1;obtain ⟨s3,l3,t3⟩:=vP h (k:=k) (by omega) x τ hx (2+m2.tdiv 3) (by omega) (by omega) s2 t2;refine ⟨s3,τ,?_,t3⟩;unfold t28 t28_6 t28_5 t28_4;simp (disch:=try exact dD _) only [↓reduceIte,↓rK,rP,AL,Mi,hτ,l1,hx,p2,hq,l2,l3]
end Go.Proofs.YtglndmmlghpdpaaGreatDoor
namespace Go.Proofs.YtglndmmlghpdpaaGreatDoor
open Go SS
set_option maxRecDepth 100000
theorem nN {call:SS.Call} (tx:Raw->B) (h1: ∀ x τ,call 28 [.agg [.int .i64 x.procs,.int .i64 x.vars,(AA (AA AJ)).enc x.trans]] τ=some (.str (tx x),τ))
 (pm:B->AQ×Int×Int) (h2: ∀ x τ,call 27 [.str (tx x)] τ=some (.tup [AP.enc (pm (tx x)).1,.int .i64 (pm (tx x)).2.1,.int .i64 (pm (tx x)).2.2],τ)) {k:Nat} (x:Raw) :
 ∃ σ,t7 call k [EP.enc x] .empty=some (AP.enc (pm (tx x)).1,σ):=by
 have h1':=λτ=>h1 x τ
 have h2':=λτ=>h2 x τ
 generalize (pm (tx x)).1=m at *;have hst: ∀ (b:Nat) (σ:St),σ.get b=some (.blk [.nilS,.nilS,.nilS] 30 0 false)->storeAt env 30 (.ptr b 0 0) (AP.enc m) σ=some (σ.put b (.blk [(AA Az).enc m.vars,(AA BH).enc m.procs,(AA BF).enc m.trans] 30 0 false)):=λb σ hg=>Ef Jv hg rfl rfl (by simp [AP,V.cells,BO,Ge])
 generalize hw:t7 call k [EP.enc x] .empty=w;unfold t7 at hw;simp (disch:=first | omega | (simp (disch:=omega) only [St.zAg,St.zAe,Aa,A9,BD,if_neg,if_true,eq_self];done) | first | exact dD _ | assumption) only [↓reduceIte,↓rK,rP,AL,Nat.reduceAdd,Nat.reduceEqDiff,Mi,h1',h2',hst] at hw;exact ⟨_,hw.symm⟩
theorem Em (m:AQ) (s:BG):m.fits s=true↔s.locs.length=m.procs.length/\s.vals.length=m.vars.length/\(∀ i (h1:i<m.procs.length) (h2:i<s.locs.length),0<=s.locs[i]/\s.locs[i]<m.procs[i].locs.length)/\(∀ i (h1:i<m.vars.length) (h2:i<s.vals.length),m.vars[i].low<=s.vals[i]/\s.vals[i]<=m.vars[i].high):=by
 unfold AQ.fits;simp only [Bool.and_eq_true,decide_eq_true_eq,List.all_eq_true];constructor
 ·rintro ⟨a1,a2,a3,a4⟩
  refine ⟨a1,a2,λi h1 h2=>?_,λi h1 h2=>?_⟩
  ·have hz:i<(m.procs.zip s.locs).length:=by rw [List.length_zip];omega
   have:=a3 _ (List.getElem_mem hz);rw [List.getElem_zip] at this;exact this
  ·have hz:i<(m.vars.zip s.vals).length:=by rw [List.length_zip];omega
   have:=a4 _ (List.getElem_mem hz);rw [List.getElem_zip] at this;exact this
 ·rintro ⟨a1,a2,a3,a4⟩
  refine ⟨a1,a2,λx hx=>?_,λx hx=>?_⟩
  ·obtain ⟨i,hi,rfl⟩:=List.getElem_of_mem hx;rw [List.length_zip] at hi;rw [List.getElem_zip];exact a3 i (by omega) (by omega)
  ·obtain ⟨i,hi,rfl⟩:=List.getElem_of_mem hx;rw [List.length_zip] at hi;rw [List.getElem_zip];exact a4 i (by omega) (by omega)
structure SI (τ:St) (m:AQ) (xl xv:V) (ls vs:List Int):Prop where
 z:τ.get 0=some (.blk (V.cellsF (AP.enc m)) 30 0 false)
 r:τ.get 1=some (.blk [.nilS,.nilS] 35 0 false)
 s:τ.get 2=some (.blk [xl,xv] 35 0 false)
 n:3<=τ.n
 ls: ∃ bl bv,Lst τ 3 1 xl ls.length (rows AJ ls) bl/\Lst τ 3 1 xv vs.length (rows AJ vs) bv/\3<=bl/\3<=bv/\bl≠bv
theorem SI.far {τ:St} {m:AQ} {xl xv:V} {ls vs:List Int} (h:SI τ m xl xv ls vs): ∃ bl bv,Lst τ 3 1 xl ls.length (rows AJ ls) bl/\Lst τ 3 1 xv vs.length (rows AJ vs) bv/\3<=bl/\3<=bv/\bl≠bv/\(bl<τ.n\/bl=τ.n+5)/\(bv<τ.n\/bv=τ.n+6):=by
 obtain ⟨bl,bv,h1,h2,d1,d2,d3⟩:=h.ls;obtain ⟨cl,e1,f1⟩:=EI 5 h1;obtain ⟨cv,e2,f2⟩:=EI 6 h2;have hn:=h.n;exact ⟨cl,cv,e1,e2,by omega,by omega,by omega,by omega,by omega⟩
theorem SI.loc {τ:St} {m:AQ} {xl xv:V} {ls vs:List Int} (h:SI τ m xl xv ls vs) (hl:ls.length<1000000) (a:Int) :
 ∃ x' σ',(∀ K:V->St->Option (AEx×List V×St),BQ 3 1 1 [.int .i64 a] xl τ K=K x' σ')/\σ'.get 2=some (.blk [xl,xv] 35 0 false)/\x'.one=true/\SI (σ'.put 2 (.blk [x',xv] 35 0 false)) m x' xv (ls++[a]) vs:=by
 obtain ⟨bl,bv,h1,h2,d1,d2,d3,f1,f2⟩:=h.far;have hn:=h.n;obtain ⟨x',b',σ',a1,a2,a3,a4,a5,a6⟩:=DQ (new:=(AJ.enc a).cells) h1 (by omega) rfl (by decide);refine ⟨x',σ',λK=>a1 K,by rw [a4 2 (by omega) (by omega)];exact h.s,a2.one,⟨?_,?_,by rw [St.zAg,if_pos rfl],by rw [A9];omega,b',bv,?_,?_,by omega,by omega,by omega⟩⟩
 ·rw [St.zAg,if_neg (by omega),a4 0 (by omega) (by omega)];exact h.z
 ·rw [St.zAg,if_neg (by omega),a4 1 (by omega) (by omega)];exact h.r
 ·rw [DI,List.length_append];exact a2.of (λ_=>by rw [St.zAg,if_neg (by omega)]) (Nat.le_refl _)
 ·exact (h2.of (σ':=σ') (λhc=>a4 _ hc (by omega)) (by omega)).of (λ_=>by rw [St.zAg,if_neg (by omega)]) (Nat.le_refl _)
theorem SI.val {τ:St} {m:AQ} {xl xv:V} {ls vs:List Int} (h:SI τ m xl xv ls vs) (hl:vs.length<1000000) (a:Int) :
 ∃ x' σ',(∀ K:V->St->Option (AEx×List V×St),BQ 3 1 1 [.int .i64 a] xv τ K=K x' σ')/\σ'.get 2=some (.blk [xl,xv] 35 0 false)/\x'.one=true/\SI (σ'.put 2 (.blk [xl,x'] 35 0 false)) m xl x' ls (vs++[a]):=by
 obtain ⟨bl,bv,h1,h2,d1,d2,d3,f1,f2⟩:=h.far;have hn:=h.n;obtain ⟨x',b',σ',a1,a2,a3,a4,a5,a6⟩:=DQ (new:=(AJ.enc a).cells) h2 (by omega) rfl (by decide);refine ⟨x',σ',λK=>a1 K,by rw [a4 2 (by omega) (by omega)];exact h.s,a2.one,⟨?_,?_,by rw [St.zAg,if_pos rfl],by rw [A9];omega,bl,b',?_,?_,by omega,by omega,by omega⟩⟩
 ·rw [St.zAg,if_neg (by omega),a4 0 (by omega) (by omega)];exact h.z
 ·rw [St.zAg,if_neg (by omega),a4 1 (by omega) (by omega)];exact h.r
 ·exact (h1.of (σ':=σ') (λhc=>a4 _ hc (by omega)) (by omega)).of (λ_=>by rw [St.zAg,if_neg (by omega)]) (Nat.le_refl _)
 ·rw [DI,List.length_append];exact a2.of (λ_=>by rw [St.zAg,if_neg (by omega)]) (Nat.le_refl _)
theorem TQ {τ:St} {m:AQ} {xl xv:V} {ls vs:List Int} (h:SI τ m xl xv ls vs) {n:Nat} (hn:3<=n):frz env τ (n+1) (.agg [xl,xv])=some (Af.enc ⟨ls,vs⟩):=by
 obtain ⟨bl,bv,h1,h2,_⟩:=h.ls;obtain ⟨n,rfl⟩: ∃ q,n=q+3:=⟨n - 3,by omega⟩
 show (match [xl,xv].mapM (frz env τ (n+2+1)) with | some ys=>some (V.agg ys) | none=>none)=_;rw [List.mapM_cons,List.mapM_cons,List.mapM_nil,En (by omega) h1,En (by omega) h2];rfl
theorem K7:(env.P.info? 35).map (·.size)=some 2:=by kernel_rfl
theorem dL {call:SS.Call} (hp: ∀ (n m:Int) τ,0<m->m<1000000000->call 33 [.int .i64 n,.int .i64 m] τ=some (.int .i64 (CF n m),τ)) {k:Nat} (m:AQ) (n:Int) (hm:Ae m) (hr: ∀ p∈m.procs,1<=p.locs.length) (hk:m.procs.length<k) (τ:St) {xl xv:V} (hI:SI τ m xl xv [] []) :
 ∃ σ xl' ls,Ai (t9_0 call k) k [.int .i64 n,.ptr 0 0 0,.ptr 1 0 0,.ptr 2 0 0,.int .i64 0] τ=some (.exit 0,[.int .i64 n,.ptr 0 0 0,.ptr 1 0 0,.ptr 2 0 0],σ)/\SI σ m xl' xv ls []/\ls.length=m.procs.length/\∀ i (h1:i<m.procs.length) (h2:i<ls.length),0<=ls[i]/\ls[i]<m.procs[i].locs.length:=by
 have hlen:=hm.procs
 obtain ⟨e,vs',σ,q1,q2,q3⟩:=Bl (P:=t9_0 call k) (Inv:=λr v σ=>∃ (i:Nat) (xl':V) (ls:List Int),r+i=m.procs.length/\v=[.int .i64 n,.ptr 0 0 0,.ptr 1 0 0,.ptr 2 0 0,.int .i64 (i:Int)]/\SI σ m xl' xv ls []/\ls.length=i/\∀ j (h1:j<m.procs.length) (h2:j<ls.length),0<=ls[j]/\ls[j]<m.procs[j].locs.length)
  (Q:=λy=>y.1=.exit 0/\y.2.1=[.int .i64 n,.ptr 0 0 0,.ptr 1 0 0,.ptr 2 0 0]/\∃ xl' ls,SI y.2.2 m xl' xv ls []/\ls.length=m.procs.length/\∀ j (h1:j<m.procs.length) (h2:j<ls.length),0<=ls[j]/\ls[j]<m.procs[j].locs.length)
  (by
    rintro r v σ ⟨i,xl',ls,hri,rfl,hS,hl,hall⟩
    have hz:=hS.z;have hs:=hS.s
    generalize hw:t9_0 call k [.int .i64 n,.ptr 0 0 0,.ptr 1 0 0,.ptr 2 0 0,.int .i64 (i:Int)] σ=w;unfold t9_0 at hw;by_cases hi:i<m.procs.length
    ·have h1:=hr _ (List.getElem_mem hi);have h2:=(hm.proc _ (List.getElem_mem hi)).2.1;have hq:=λ(K:Int->Option (AEx×List V×St))=>Fb (y:=1+(i:Int)) n K (by omega)
     obtain ⟨u0,u1⟩:=Er (IntKind.i64.wrap (n.tdiv (1+(i:Int)))) (m.procs[i].locs.length:Int) (by omega);have p1:=hp (IntKind.i64.wrap (n.tdiv (1+(i:Int)))) (m.procs[i].locs.length:Int) σ (by omega) (by omega);generalize CF (IntKind.i64.wrap (n.tdiv (1+(i:Int)))) (m.procs[i].locs.length:Int)=pk at *;obtain ⟨x',σ',a1,a2,a3,a4⟩:=hS.loc (by omega) pk;have hx:xl'.one=true:=by obtain ⟨_,_,q1,_⟩:=hS.ls;exact q1.one
     have hi':=eq_true (show (i:Int)<(m.procs.length:Int) by omega);simp (disch:=try exact dD _) only [↓reduceIte,↓rK,rP,Nat.reduceAdd,hz,hs,hi',hq,p1,↓BA,BA,hx,a1,a2] at hw;refine .inl ⟨r - 1,_,_,by omega,hw.symm,i+1,x',ls++[pk],by omega,rfl,a4,by simp;omega,λj h1 h2=>?_⟩;by_cases hj:j<ls.length
     ·rw [List.getElem_append_left hj];exact hall j h1 hj
     ·have hji:j=i:=by simp at h2;omega
      subst hji;rw [List.getElem_append_right (by omega)];simp only [hl,Nat.sub_self,List.getElem_singleton];exact ⟨u0,u1⟩
    ·have he:i=m.procs.length:=by omega
     subst he;simp (disch:=try exact dD _) only [↓reduceIte,↓rK,rP,hz] at hw;exact .inr ⟨_,_,σ,hw.symm,(by intro h;cases h),rfl,rfl,xl',ls,hS,hl,hall⟩)
  m.procs.length k [.int .i64 n,.ptr 0 0 0,.ptr 1 0 0,.ptr 2 0 0,.int .i64 0] τ hk ⟨0,xl,[],by omega,rfl,hI,rfl,λj _ h2=>by simp at h2⟩
 obtain ⟨q3,q4,xl',ls,q5,q6,q7⟩:=q3;simp only at q3 q4 q5;subst q3 q4;exact ⟨σ,xl',ls,q1,q5,q6,q7⟩
set_option maxHeartbeats 8000000 in
theorem dM {call:SS.Call} (hp: ∀ (n m:Int) τ,0<m->m<1000000000->call 33 [.int .i64 n,.int .i64 m] τ=some (.int .i64 (CF n m),τ)) {k:Nat} (m:AQ) (n:Int) (hm:Ae m) (hr: ∀ v∈m.vars,-999<=v.low/\v.low<=v.high/\v.high<=999) (hk:m.vars.length<k) (τ:St) {xl xv:V} {ls:List Int} (hI:SI τ m xl xv ls []) :
 ∃ σ xv' vs,Ai (t9_1 call k) k [.int .i64 n,.ptr 0 0 0,.ptr 1 0 0,.ptr 2 0 0,.int .i64 0] τ=some (.exit 2,[.ptr 1 0 0,.ptr 2 0 0],σ)/\SI σ m xl xv' ls vs/\vs.length=m.vars.length/\∀ i (h1:i<m.vars.length) (h2:i<vs.length),m.vars[i].low<=vs[i]/\vs[i]<=m.vars[i].high:=by
 have hlen:=hm.vars
 obtain ⟨e,vs',σ,q1,q2,q3⟩:=Bl (P:=t9_1 call k) (Inv:=λr v σ=>∃ (i:Nat) (xv':V) (vs:List Int),r+i=m.vars.length/\v=[.int .i64 n,.ptr 0 0 0,.ptr 1 0 0,.ptr 2 0 0,.int .i64 (i:Int)]/\SI σ m xl xv' ls vs/\vs.length=i/\∀ j (h1:j<m.vars.length) (h2:j<vs.length),m.vars[j].low<=vs[j]/\vs[j]<=m.vars[j].high)
  (Q:=λy=>y.1=.exit 2/\y.2.1=[.ptr 1 0 0,.ptr 2 0 0]/\∃ xv' vs,SI y.2.2 m xl xv' ls vs/\vs.length=m.vars.length/\∀ j (h1:j<m.vars.length) (h2:j<vs.length),m.vars[j].low<=vs[j]/\vs[j]<=m.vars[j].high)
  (by
    rintro r v σ ⟨i,xv',vs,hri,rfl,hS,hl,hall⟩
    have hz:=hS.z;have hs:=hS.s
    generalize hw:t9_1 call k [.int .i64 n,.ptr 0 0 0,.ptr 1 0 0,.ptr 2 0 0,.int .i64 (i:Int)] σ=w;unfold t9_1 at hw;by_cases hi:i<m.vars.length
    ·obtain ⟨h1,h2,h3⟩:=hr _ (List.getElem_mem hi);have hq:=λ(K:Int->Option (AEx×List V×St))=>Fb (y:=3+4*(i:Int)) n K (by omega)
     obtain ⟨u0,u1⟩:=Er (IntKind.i64.wrap (n.tdiv (3+4*(i:Int)))) (m.vars[i].high - m.vars[i].low+1) (by omega);have p1:=hp (IntKind.i64.wrap (n.tdiv (3+4*(i:Int)))) (m.vars[i].high - m.vars[i].low+1) σ (by omega) (by omega);generalize CF (IntKind.i64.wrap (n.tdiv (3+4*(i:Int)))) (m.vars[i].high - m.vars[i].low+1)=pk at *;obtain ⟨x',σ',a1,a2,a3,a4⟩:=hS.val (by omega) (m.vars[i].low+pk);have hx:xv'.one=true:=by obtain ⟨_,_,_,q1,_⟩:=hS.ls;exact q1.one
     have hi':=eq_true (show (i:Int)<(m.vars.length:Int) by omega);simp (disch:=try exact dD _) only [↓reduceIte,↓rK,rP,Nat.reduceAdd,hz,hs,hi',hq,p1,hx,a1,a2] at hw;refine .inl ⟨r - 1,_,_,by omega,hw.symm,i+1,x',vs++[m.vars[i].low+pk],by omega,rfl,a4,by simp;omega,λj h1 h2=>?_⟩;by_cases hj:j<vs.length
     ·rw [List.getElem_append_left hj];exact hall j h1 hj
     ·have hji:j=i:=by simp at h2;omega
      subst hji;rw [List.getElem_append_right (by omega)];simp only [hl,Nat.sub_self,List.getElem_singleton];omega
    ·have he:i=m.vars.length:=by omega
     subst he;simp (disch:=try exact dD _) only [↓reduceIte,↓rK,rP,hz] at hw;exact .inr ⟨_,_,σ,hw.symm,(by intro h;cases h),rfl,rfl,xv',vs,hS,hl,hall⟩)
  m.vars.length k [.int .i64 n,.ptr 0 0 0,.ptr 1 0 0,.ptr 2 0 0,.int .i64 0] τ hk ⟨0,xv,[],by omega,rfl,hI,rfl,λj _ h2=>by simp at h2⟩
 obtain ⟨q3,q4,xl',ls,q5,q6,q7⟩:=q3;simp only at q3 q4 q5;subst q3 q4;exact ⟨σ,xl',ls,q1,q5,q6,q7⟩
theorem dK {call:SS.Call} (hp: ∀ (n m:Int) τ,0<m->m<1000000000->call 33 [.int .i64 n,.int .i64 m] τ=some (.int .i64 (CF n m),τ)) {k:Nat} (m:AQ) (n:Int) (hm:Ae m) (hr: ∀ p∈m.procs,1<=p.locs.length) (hr2: ∀ v∈m.vars,-999<=v.low/\v.low<=v.high/\v.high<=999) (hk:m.procs.length<k) (hk2:m.vars.length<k) :
 ∃ v σ s,t9 call k [AP.enc m,.int .i64 n] .empty=some (v,σ)/\v.kind≠0/\frz env σ 64 v=some (Af.enc s)/\m.fits s=true:=by
 have h0:SI (((St.empty.new (.blk (V.cellsF (AP.enc m)) 30 0 false)).new (.blk [.nilS,.nilS] 35 0 false)).new (.blk [.nilS,.nilS] 35 0 false)) m .nilS .nilS [] [] :=
  ⟨by simp (disch:=decide) [St.zAe,Aa,BD],by simp (disch:=decide) [St.zAe,Aa,BD],by simp (disch:=decide) [St.zAe,Aa,BD],by rw [Aa,Aa,Aa,BD];omega,3,4,C5 _ _ _ _,C5 _ _ _ _,by omega,by omega,by omega⟩
 obtain ⟨σ1,xl,ls,g1,g2,g3,g4⟩:=dL hp (k:=k) m n hm hr hk _ h0;obtain ⟨σ2,xv,vs,f1,f2,f3,f4⟩:=dM hp (k:=k) m n hm hr2 hk2 _ g2;generalize hw:t9 call k [AP.enc m,.int .i64 n] .empty=w;unfold t9 t9_3 t9_2 at hw;have hs:=f2.s;obtain ⟨bl,bv,e1,e2,d1,d2,d3⟩:=f2.ls;have hst:storeAt env 35 (.ptr 1 0 0) (.agg [xl,xv]) σ2=some (σ2.put 1 (.blk [xl,xv] 35 0 false)):=Ef K7 f2.r rfl rfl (by simp [V.cells,BO,e1.one,e2.one]);simp only [H8,EQ,H7,BD,Aa,Nat.zero_add,Nat.reduceAdd] at hw;rw [g1] at hw;simp only [↓reduceIte,↓rK,rP,AL,Nat.reduceAdd,f1,hs,hst] at hw;refine ⟨_,_,⟨ls,vs⟩,hw.symm,?_,?_,(Em m ⟨ls,vs⟩).2 ⟨g3,f3,g4,f4⟩⟩
 ·have:=Il e1;rw [E5,BM];omega
 ·have o: ∀ {ty sz v n cs b},Lst σ2 ty sz v n cs b->3<=b->Lst (σ2.put 1 (.blk [xl,xv] 35 0 false)) ty sz v n cs b:=λh hb=>h.of (λ_=>by rw [St.zAg,if_neg (by omega)]) (Nat.le_refl _)
  show (match [xl,xv].mapM (frz env _ (62+1)) with | some ys=>some (V.agg ys) | none=>none)=_;rw [List.mapM_cons,List.mapM_cons,List.mapM_nil,En (by omega) (o e1 d1),En (by omega) (o e2 d2)];rfl
theorem NQ {call:SS.Call} {f:FuncId} {cap vs:List V} {σ:St}: JK call (.fn f cap) vs σ=call f (vs++cap) σ:=rfl
def EA (c:Int):Bool:=SS.CY c||SS.B6 c
section
variable {call:SS.Call} {k:Nat}
theorem Yv (c:Int) (σ:St):t136 call k [.int .u8 c] σ=some (.bool (SS.CY c),σ):=by
 unfold t136 SS.CY;simp (disch:=try exact dD _) only [↓rK,rO,AL]
theorem Zy (c:Int) (σ:St):t150 call k [.int .u8 c] σ=some (.bool (SS.B6 c),σ):=by
 unfold t150 SS.B6;simp (disch:=try exact dD _) only [↓rK,rO,AL]
theorem xC (h1: ∀ c τ,call 136 [.int .u8 c] τ=some (.bool (SS.CY c),τ)) (h2: ∀ c τ,call 150 [.int .u8 c] τ=some (.bool (SS.B6 c),τ)) (c:Int) (σ:St):t138 call k [.int .u8 c] σ=some (.bool (EA c),σ):=by
 unfold t138 EA;simp (disch:=try exact dD _) only [↓rK,rO,AL,h1,h2]
theorem oU (n:Int) (σ:St):t134 call k [.int .i64 n] σ=some (.int .i64 (SS.arity n),σ):=by
 unfold t134;by_cases h1:n<1
 ·have h1':=eq_true h1;have e:SS.arity n=-1:=by unfold SS.arity;rw [if_neg (by omega),if_neg (by omega),if_neg (by omega)]
  rw [e];simp (disch:=try exact dD _) only [↓reduceIte,↓rK,rP,AL,h1'];rfl
 ·have h1':=eq_false h1;by_cases h2:16<n
  ·have h2':=eq_true h2;have e:SS.arity n=-1:=by unfold SS.arity;rw [if_neg (by omega),if_neg (by omega),if_neg (by omega)]
   rw [e];simp (disch:=try exact dD _) only [↓reduceIte,↓rK,rP,AL,h1',h2'];rfl
  ·have h2':=eq_false h2;by_cases h3:n<=3
   ·have h3':=eq_true h3;have e:SS.arity n=0:=by unfold SS.arity;rw [if_pos (by omega)]
    rw [e];simp (disch:=try exact dD _) only [↓reduceIte,↓rK,rP,AL,h1',h2',h3']
   ·have h3':=eq_false h3;by_cases h4:n<=5
    ·have h4':=eq_true h4;have e:SS.arity n=1:=by unfold SS.arity;rw [if_neg (by omega),if_pos (by omega)]
     rw [e];simp (disch:=try exact dD _) only [↓reduceIte,↓rK,rP,AL,h1',h2',h3',h4']
    ·have h4':=eq_false h4;have e:SS.arity n=2:=by unfold SS.arity;rw [if_neg (by omega),if_neg (by omega),if_pos (by omega)]
     rw [e];simp (disch:=try exact dD _) only [↓reduceIte,↓rK,rP,AL,h1',h2',h3',h4']
end
theorem sF {call:SS.Call} {k:Nat} (h: ∀ c τ,call 138 [.int .u8 c] τ=some (.bool (EA c),τ)) (s:B) (hs:s.length<1000000) (hk:s.length<k) (τ:St) :
 t137 call k [.str s,.fn 138 []] τ=some (.str (s.takeWhile λc=>EA (by8 c)),τ):=by
 obtain ⟨e,vs',σ,q1,q2,q3⟩:=Bl (P:=t137_0 call k) (Inv:=λr v σ=>∃ i:Nat,r+i=s.length/\v=[.str s,.fn 138 [],.int .i64 (i:Int)]/\σ=τ/\(s.takeWhile λc=>EA (by8 c))=s.take i++(s.drop i).takeWhile λc=>EA (by8 c))
  (Q:=λy=>y.1=.exit 0/\y.2.2=τ/\∃ i:Nat,i<=s.length/\y.2.1=[.str s,.int .i64 (i:Int)]/\(s.takeWhile λc=>EA (by8 c))=s.take i)
  (by
    rintro r v σ ⟨i,hr,rfl,rfl,hT⟩
    generalize hw:t137_0 call k [.str s,.fn 138 [],.int .i64 (i:Int)] σ=w;unfold t137_0 at hw;by_cases hi:i<s.length
    ·have hi':=eq_true (show (i:Int)<(s.length:Int) by omega);have hd:s.drop i=s[i] :: s.drop (i+1):=List.drop_eq_getElem_cons hi;cases hc:EA (by8 s[i]) with
     | true =>
      simp (disch:=try exact dD _) only [↓reduceIte,↓rK,rP,hi',NQ,List.cons_append,List.nil_append,h,hc] at hw;refine .inl ⟨r - 1,_,σ,by omega,hw.symm,i+1,by omega,rfl,rfl,?_⟩;rw [hT,hd,List.takeWhile_cons,hc,List.take_succ_eq_append_getElem hi,List.append_assoc];rfl
     | false =>
      simp (disch:=try exact dD _) only [↓reduceIte,↓rK,rP,hi',NQ,List.cons_append,List.nil_append,h,hc] at hw;refine .inr ⟨_,_,σ,hw.symm,(by intro h;cases h),rfl,rfl,i,by omega,rfl,?_⟩;rw [hT,hd,List.takeWhile_cons,hc];simp
    ·have he:i=s.length:=by omega
     subst he;have hi':=eq_false (show ¬(s.length:Int)<(s.length:Int) by omega);simp (disch:=try exact dD _) only [↓reduceIte,↓rK,rP,hi'] at hw;refine .inr ⟨_,_,σ,hw.symm,(by intro h;cases h),rfl,rfl,s.length,by omega,rfl,?_⟩;rw [hT,List.drop_length];simp)
  s.length k [.str s,.fn 138 [],.int .i64 0] τ hk ⟨0,by omega,rfl,rfl,by simp⟩
 obtain ⟨q3,q4,i,q5,q6,q7⟩:=q3;simp only at q3 q4 q6;subst q3 q4 q6;unfold t137 t137_1;simp (disch:=try exact dD _) only [↓rK,rP,AL,q1];rw [q7];simp
theorem vE {α:Type} [DecidableEq α] (p:α->Bool) (s:List α):decide (s.takeWhile p=s)=s.all p:=by
 induction s with
 | nil=>rfl
 | cons c r ih =>
  rw [List.takeWhile_cons,List.all_cons];cases hp:p c with
  | true=>simp only [if_true,List.cons.injEq,true_and,Bool.true_and];exact ih
  | false=>simp
theorem WS: ∀ s:B,GM false s=s.all λc=>EA (by8 c)
 | []=>rfl
 | c :: r=>by
  show ((SS.CY (by8 c)||(!false&&SS.B6 (by8 c)))&&GM false r)=_;rw [WS r,List.all_cons];simp [EA]
theorem kQ (c:UInt8) (r:B):isWord (c :: r)=(decide ((c :: r).length<=8)&&SS.CY (by8 c)&&decide ((c :: r).takeWhile (λc=>EA (by8 c))=c :: r)):=by
 rw [vE,List.all_cons];unfold isWord;show (((SS.CY (by8 c)||(!true&&SS.B6 (by8 c)))&&GM false r)&&(decide (1<=(c :: r).length)&&decide ((c :: r).length<=8)))=_;rw [WS,decide_eq_true (show 1<=(c :: r).length by simp)];have:EA (by8 c)=(SS.CY (by8 c)||SS.B6 (by8 c)):=rfl;rw [this];cases SS.CY (by8 c)<;>cases (r.all λc=>EA (by8 c))<;>cases decide ((c :: r).length<=8)<;>simp
theorem kN {call:SS.Call} {k:Nat} (h1: ∀ c τ,call 136 [.int .u8 c] τ=some (.bool (SS.CY c),τ)) (h2: ∀ (s:B) τ,s.length<1000000->call 137 [.str s,.fn 138 []] τ=some (.str (s.takeWhile λc=>EA (by8 c)),τ)) (s:B) (hs:s.length<1000000) (τ:St) :
 t114 call k [.str s] τ=some (.bool (isWord s),τ):=by
 unfold t114
 match s,hs with
 | [],_ =>
  simp (disch:=try exact dD _) only [↓rK,rP,AL];rfl
 | c :: r,hs =>
  have h2':=h2 (c :: r) τ hs;have hne:((c :: r:B)=[])=False:=by simp
  rw [kQ];generalize hT:(c :: r).takeWhile (λc=>EA (by8 c))=T at *;by_cases hl:(c :: r).length<=8
  ·have hl':=eq_true (show ((r.length+1:Nat):Int)<=8 by simp at hl;omega);rw [decide_eq_true hl];cases hlo:SS.CY (by8 c) with
   | true =>
    simp (disch:=try exact dD _) only [↓rK,rO,AL,hne,hl',h1,hlo,h2']
   | false =>
    simp (disch:=try exact dD _) only [↓rK,rO,AL,hne,hl',h1,hlo,h2']
  ·have hl':=eq_false (show ¬((r.length+1:Nat):Int)<=8 by simp at hl;omega);rw [decide_eq_false hl];simp (disch:=try exact dD _) only [↓rK,rO,AL,hne,hl']
theorem OZ (s:B):decide (s=[])=(s==[]):=by cases s<;>rfl
theorem nK {call:SS.Call} {k:Nat} (h1: ∀ (s:B) τ,s.length<1000000->call 114 [.str s] τ=some (.bool (isWord s),τ)) (h2: ∀ (n:Int) τ,call 134 [.int .i64 n] τ=some (.int .i64 (SS.arity n),τ)) (t:Ao) (hs:t.name.length<1000000/\t.loc.length<1000000) :
 ∃ σ,t135 call k [Al.enc t] .empty=some (.bool t.may,σ):=by
 obtain ⟨s1,s2⟩:=hs;generalize hw:t135 call k [Al.enc t] .empty=w;unfold t135 at hw;unfold Ao.may;by_cases e1:t.op=1
 ·have e1':=eq_true e1;rw [if_pos e1];simp (disch:=try exact dD _) only [↓reduceIte,↓rK,rO,AL,e1',OZ] at hw;simp only [Bool.and_assoc] at hw;exact ⟨_,hw.symm⟩
 ·have e1':=eq_false e1;rw [if_neg e1];by_cases e2:t.op=2
  ·have e2':=eq_true e2;rw [if_pos e2];simp (disch:=try exact dD _) only [↓reduceIte,↓rK,rO,AL,e1',e2',h1,OZ] at hw;simp only [Bool.and_assoc] at hw;exact ⟨_,hw.symm⟩
  ·have e2':=eq_false e2;rw [if_neg e2];by_cases e3:t.op=3
   ·have e3':=eq_true e3;rw [if_pos e3];simp (disch:=try exact dD _) only [↓reduceIte,↓rK,rO,AL,e1',e2',e3',h1] at hw;simp only [Bool.and_assoc] at hw;exact ⟨_,hw.symm⟩
   ·have e3':=eq_false e3;rw [if_neg e3];simp (disch:=try exact dD _) only [↓reduceIte,↓rK,rO,AL,e1',e2',e3',h2,OZ] at hw;simp only [Bool.and_assoc] at hw;exact ⟨_,hw.symm⟩
theorem Yf (n:Int): -1<=SS.arity n/\SS.arity n<=2:=by
 rcases RL n with ⟨h,_⟩ | ⟨h,_⟩ | ⟨h,_⟩ | h<;>omega
theorem rE {call:SS.Call} {k:Nat} (h1: ∀ (t:Ao) τ,t.name.length<1000000->t.loc.length<1000000->call 135 [Al.enc t] τ=some (.bool t.may,τ)) (h2: ∀ (n:Int) τ,call 134 [.int .i64 n] τ=some (.int .i64 (SS.arity n),τ)) (l:List Ao) (hs:Ci l) (hk:l.length<k) (τ0:St) :
 ∃ σ,t113 call k [(AA Al).enc l] τ0=some (.bool (Cl l),σ):=by
 have hlen:=hs.1
 obtain ⟨e,vs',σ,q1,q2,q3⟩:=Bl (P:=t113_0 call k) (Inv:=λr v σ=>∃ (i:Nat) (n:Int),r+i=l.length/\v=[(AA Al).enc l,.int .i64 n,(AA Al).enc l,.int .i64 (l.length:Int),.int .i64 (i:Int)]/\0<=n/\n<=i/\DU (l.drop i) n=DU l 0)
  (Q:=λy=>(y.1=.exit 0/\∃ n,y.2.1=[(AA Al).enc l,.int .i64 n]/\DU l 0=some n)\/(y.1=.ret/\y.2.1=[.bool false]/\DU l 0=none))
  (by
    rintro r v σ ⟨i,n,hr,rfl,hn0,hni,hR⟩
    generalize hw:t113_0 call k [(AA Al).enc l,.int .i64 n,(AA Al).enc l,.int .i64 (l.length:Int),.int .i64 (i:Int)] σ=w;unfold t113_0 at hw;by_cases hi:i<l.length
    ·have hi':=eq_true (show (i:Int)<(l.length:Int) by omega);obtain ⟨w1,w2⟩:=hs.2 _ (List.getElem_mem hi);have ha:=Yf l[i].op;rw [List.drop_eq_getElem_cons hi] at hR;have hR:(if l[i].may=true/\SS.arity l[i].op<=n then DU (l.drop (i+1)) (n - SS.arity l[i].op+1) else none)=DU l 0:=hR;have hm1:=h1 l[i];cases hm:l[i].may with
     | false =>
      simp (disch:=try exact dD _) only [↓reduceIte,↓rK,rO,Nat.reduceAdd,hi',Ay Cv,h2,hm1,hm,Oi] at hw;rw [if_neg (by rw [hm];simp)] at hR;exact .inr ⟨_,_,_,hw.symm,(by intro h;cases h),.inr ⟨rfl,rfl,hR.symm⟩⟩
     | true =>
      by_cases hc:n<SS.arity l[i].op
      ·have hc':=eq_true hc;simp (disch:=try exact dD _) only [↓reduceIte,↓rK,rO,Nat.reduceAdd,hi',Ay Cv,h2,hm1,hm,Oi,hc'] at hw;rw [if_neg (by omega)] at hR;exact .inr ⟨_,_,_,hw.symm,(by intro h;cases h),.inr ⟨rfl,rfl,hR.symm⟩⟩
      ·have hc':=eq_false hc;have ha2:0<=SS.arity l[i].op:=by
        have:=UO hm;omega
       simp (disch:=try exact dD _) only [↓reduceIte,↓rK,rO,Nat.reduceAdd,hi',Ay Cv,h2,hm1,hm,Oi,hc'] at hw;rw [if_pos ⟨hm,by omega⟩] at hR;exact .inl ⟨r - 1,_,_,by omega,hw.symm,i+1,n+(1 - SS.arity l[i].op),by omega,rfl,by omega,by omega,by rw [<-hR];congr 1;omega⟩
    ·have he:i=l.length:=by omega
     subst he;rw [List.drop_length] at hR;have hi':=eq_false (show ¬(l.length:Int)<(l.length:Int) by omega);simp (disch:=try exact dD _) only [↓reduceIte,↓rK,rO,hi'] at hw;exact .inr ⟨_,_,σ,hw.symm,(by intro h;cases h),.inl ⟨rfl,n,rfl,hR.symm⟩⟩)
  l.length k [(AA Al).enc l,.int .i64 0,(AA Al).enc l,.int .i64 (l.length:Int),.int .i64 0] τ0 hk ⟨0,0,by omega,rfl,by omega,by omega,rfl⟩
 have hle:decide ((l.length:Int)<=30)=decide (l.length<=30):=decide_eq_decide.2 (by omega);rcases q3 with ⟨e1,n,e2,e3⟩ | ⟨e1,e2,e3⟩
 ·simp only at e1 e2;subst e1 e2;refine ⟨σ,?_⟩;unfold t113 t113_1 Cl;simp (disch:=try exact dD _) only [↓rK,rO,AL,q1];rw [e3,hle];by_cases h:n=1
  ·subst h;simp
  ·rw [decide_eq_false h];have:(some n==some (1:Int))=false:=by simpa using h
   rw [this]
 ·simp only at e1 e2;subst e1 e2;refine ⟨σ,?_⟩;unfold t113 Cl;simp (disch:=try exact dD _) only [↓rK,rO,AL,q1];rw [e3];rfl
def CS (σ σ':St):Prop:=σ.n<=σ'.n/\∀ c,c<σ.n->σ'.get c=σ.get c
theorem CS.refl (σ:St):CS σ σ:=⟨Nat.le_refl _,λ_ _=>rfl⟩
theorem CS.trans {a b c:St} (h:CS a b) (k:CS b c):CS a c:=⟨Nat.le_trans h.1 k.1,λx hx=>(k.2 x (by have:=h.1;omega)).trans (h.2 x hx)⟩
def DL (σ:St) (b:Nat) (s:B):Prop:=b<σ.n/\∃ cs ty,σ.get b=some (.blk (.str s :: cs) ty 0 false)
theorem DL.ext {σ σ':St} {b:Nat} {s:B} (h:DL σ b s) (e:CS σ σ'):DL σ' b s:=by
 obtain ⟨h1,cs,ty,h2⟩:=h;exact ⟨by have:=e.1;omega,cs,ty,by rw [e.2 b h1];exact h2⟩
section
variable {call:SS.Call} {k:Nat}
theorem kM (v:Var) (b:Nat) (s:B) (σ:St) (h:DL σ b s): ∃ σ',t131 call k [Az.enc v,.ptr b 0 0] σ=some (.bool (decide (v.name=s)),σ')/\CS σ σ':=by
 obtain ⟨h1,cs,ty,h2⟩:=h;generalize hw:t131 call k [Az.enc v,.ptr b 0 0] σ=w;unfold t131 at hw;simp (disch:=try exact dD _) only [↓reduceIte,↓rK,rO,AL,h2] at hw;exact ⟨_,hw.symm,by rw [Aa];omega,λc hc=>by rw [St.zAe,if_neg (by omega)]⟩
theorem kL (v:Var) (b:Nat) (s:B) (σ:St) (h:DL σ b s): ∃ σ',t83 call k [Az.enc v,.ptr b 0 0] σ=some (.bool (decide (v.name=s)),σ')/\CS σ σ':=by
 obtain ⟨h1,cs,ty,h2⟩:=h;generalize hw:t83 call k [Az.enc v,.ptr b 0 0] σ=w;unfold t83 at hw;simp (disch:=try exact dD _) only [↓reduceIte,↓rK,rO,AL,h2] at hw;exact ⟨_,hw.symm,by rw [Aa];omega,λc hc=>by rw [St.zAe,if_neg (by omega)]⟩
theorem fB (v:Bi) (b:Nat) (s:B) (σ:St) (h:DL σ b s): ∃ σ',t133 call k [BH.enc v,.ptr b 0 0] σ=some (.bool (decide (v.name=s)),σ')/\CS σ σ':=by
 obtain ⟨h1,cs,ty,h2⟩:=h;generalize hw:t133 call k [BH.enc v,.ptr b 0 0] σ=w;unfold t133 at hw;simp (disch:=try exact dD _) only [↓reduceIte,↓rK,rO,AL,h2] at hw;exact ⟨_,hw.symm,by rw [Aa];omega,λc hc=>by rw [St.zAe,if_neg (by omega)]⟩
theorem Te (f:FuncId) (hf: ∀ (v:Var) (b:Nat) (s:B) σ,DL σ b s->∃ σ',call f [Az.enc v,.ptr b 0 0] σ=some (.bool (decide (v.name=s)),σ')/\CS σ σ') (l:List Var) (hl:l.length<1000000) (hk:l.length<k) (b:Nat) (s:B) (σ:St) (h:DL σ b s) :
 ∃ σ',t110 call k [(AA Az).enc l,.fn f [.ptr b 0 0]] σ=some (.int .i64 (find s (l.map (·.name))),σ')/\CS σ σ':=by
 have hb: ∀ (i:Nat) τ (hi:i<l.length),DL τ b s->∃ τ',t110_0 call k [(AA Az).enc l,.fn f [.ptr b 0 0],.int .i64 (l.length:Int),.int .i64 (i:Int)] τ=(if decide (l[i].name=s)=true then some (.ret,[.int .i64 (i:Int)],τ') else some (.norm,[(AA Az).enc l,.fn f [.ptr b 0 0],.int .i64 (l.length:Int),.int .i64 ((i+1:Nat):Int)],τ'))/\CS τ τ':=by
  intro i τ hi hn;obtain ⟨τ',c1,c2⟩:=hf l[i] b s τ hn;refine ⟨τ',?_,c2⟩;have hi':=eq_true (show (i:Int)<(l.length:Int) by omega);generalize decide (l[i].name=s)=p at *;unfold t110_0;simp (disch:=try exact dD _) only [↓reduceIte,↓rK,rO,hi',NQ,List.cons_append,List.nil_append,c1];cases p<;>rfl
 have hl2:=Hd (P:=t110_0 call k) (I:=λτ=>DL τ b s/\CS σ τ) (mk:=λi=>[(AA Az).enc l,.fn f [.ptr b 0 0],.int .i64 (l.length:Int),.int .i64 (i:Int)]) (res:=λi=>[.int .i64 (i:Int)]) (fin:=[]) (id:=0) (n:=l.length)
  (p:=λi=>if h:i<l.length then decide (l[i].name=s) else false)
  (by
    rintro i τ hi ⟨hn,he⟩ hp
    simp only [dif_pos hi] at hp;obtain ⟨τ',g1,g2⟩:=hb i τ hi hn;rw [hp] at g1;exact ⟨τ',g1,hn.ext g2,he.trans g2⟩)
  (by
    rintro i τ hi ⟨hn,he⟩ hp
    simp only [dif_pos hi] at hp;obtain ⟨τ',g1,g2⟩:=hb i τ hi hn;rw [hp] at g1;exact ⟨τ',g1,hn.ext g2,he.trans g2⟩)
  (by
    rintro τ ⟨hn,he⟩
    refine ⟨τ,?_,hn,he⟩;have hi':=eq_false (show ¬(l.length:Int)<(l.length:Int) by omega);unfold t110_0;simp (disch:=try exact dD _) only [↓reduceIte,↓rK,rO,hi'])
  l.length 0 k σ (by omega) hk ⟨h,CS.refl σ⟩
 obtain ⟨τ,h3,_,h4⟩:=hl2;refine ⟨τ,?_,h4⟩;unfold t110 t110_1;rw [show ((0:Nat):Int)=0 from rfl,G7 (λx=>decide (x.name=s)) _ _ (by intro i hi;simp only [dif_pos hi])] at h3;rw [IY];simp (disch:=try exact dD _) only [↓rK,rP,h3];cases l.findIdx? (λx=>decide (x.name=s)) with
 | none=>simp only [↓rK,rP,AL];rfl
 | some j=>simp only [↓rK,rP,AL]
theorem dW (f:FuncId) (hf: ∀ (v:Bi) (b:Nat) (s:B) σ,DL σ b s->∃ σ',call f [BH.enc v,.ptr b 0 0] σ=some (.bool (decide (v.name=s)),σ')/\CS σ σ') (l:List Bi) (hl:l.length<1000000) (hk:l.length<k) (b:Nat) (s:B) (σ:St) (h:DL σ b s) :
 ∃ σ',t132 call k [(AA BH).enc l,.fn f [.ptr b 0 0]] σ=some (.int .i64 (find s (l.map (·.name))),σ')/\CS σ σ':=by
 have hb: ∀ (i:Nat) τ (hi:i<l.length),DL τ b s->∃ τ',t132_0 call k [(AA BH).enc l,.fn f [.ptr b 0 0],.int .i64 (l.length:Int),.int .i64 (i:Int)] τ=(if decide (l[i].name=s)=true then some (.ret,[.int .i64 (i:Int)],τ') else some (.norm,[(AA BH).enc l,.fn f [.ptr b 0 0],.int .i64 (l.length:Int),.int .i64 ((i+1:Nat):Int)],τ'))/\CS τ τ':=by
  intro i τ hi hn;obtain ⟨τ',c1,c2⟩:=hf l[i] b s τ hn;refine ⟨τ',?_,c2⟩;have hi':=eq_true (show (i:Int)<(l.length:Int) by omega);generalize decide (l[i].name=s)=p at *;unfold t132_0;simp (disch:=try exact dD _) only [↓reduceIte,↓rK,rO,hi',NQ,List.cons_append,List.nil_append,c1];cases p<;>rfl
 have hl2:=Hd (P:=t132_0 call k) (I:=λτ=>DL τ b s/\CS σ τ) (mk:=λi=>[(AA BH).enc l,.fn f [.ptr b 0 0],.int .i64 (l.length:Int),.int .i64 (i:Int)]) (res:=λi=>[.int .i64 (i:Int)]) (fin:=[]) (id:=0) (n:=l.length)
  (p:=λi=>if h:i<l.length then decide (l[i].name=s) else false)
  (by
    rintro i τ hi ⟨hn,he⟩ hp
    simp only [dif_pos hi] at hp;obtain ⟨τ',g1,g2⟩:=hb i τ hi hn;rw [hp] at g1;exact ⟨τ',g1,hn.ext g2,he.trans g2⟩)
  (by
    rintro i τ hi ⟨hn,he⟩ hp
    simp only [dif_pos hi] at hp;obtain ⟨τ',g1,g2⟩:=hb i τ hi hn;rw [hp] at g1;exact ⟨τ',g1,hn.ext g2,he.trans g2⟩)
  (by
    rintro τ ⟨hn,he⟩
    refine ⟨τ,?_,hn,he⟩;have hi':=eq_false (show ¬(l.length:Int)<(l.length:Int) by omega);unfold t132_0;simp (disch:=try exact dD _) only [↓reduceIte,↓rK,rO,hi'])
  l.length 0 k σ (by omega) hk ⟨h,CS.refl σ⟩
 obtain ⟨τ,h3,_,h4⟩:=hl2;refine ⟨τ,?_,h4⟩;unfold t132 t132_1;rw [show ((0:Nat):Int)=0 from rfl,G7 (λx=>decide (x.name=s)) _ _ (by intro i hi;simp only [dif_pos hi])] at h3;rw [IY];simp (disch:=try exact dD _) only [↓rK,rP,h3];cases l.findIdx? (λx=>decide (x.name=s)) with
 | none=>simp only [↓rK,rP,AL];rfl
 | some j=>simp only [↓rK,rP,AL]
theorem ZW {τ τ':St} {a f:V} {n:Int} (h:call 110 [a,f] τ=some (.int .i64 n,τ')):t82 call k [a,f] τ=some (.bool (decide (0<=n)),τ'):=by
 unfold t82;simp (disch:=try exact dD _) only [↓rK,rO,AL,h]
end
theorem eH {call:SS.Call} {k:Nat} (l:List B) (hl:l.length<1000000) (hk:l.length<k) (s:B) (τ:St):t43 call k [(AA AC).enc l,.str s] τ=some (.int .i64 (find s l),τ):=by
 have hl2:=Hd (P:=t43_0 call k) (I:=λσ=>σ=τ) (mk:=λi=>[(AA AC).enc l,.str s,.int .i64 (l.length:Int),.int .i64 (i:Int)]) (res:=λi=>[.int .i64 (i:Int)]) (fin:=[]) (id:=0) (n:=l.length)
  (p:=λi=>if h:i<l.length then decide (s=l[i]) else false)
  (by
    rintro i σ hi rfl hp
    simp only [dif_pos hi] at hp;have hp':¬s=l[i]:=of_decide_eq_false hp;have hp'':=eq_false hp';have hi':=eq_true (show (i:Int)<(l.length:Int) by omega);refine ⟨σ,?_,rfl⟩;unfold t43_0;simp (disch:=try exact dD _) only [↓reduceIte,↓rK,rP,hi',hp''];rfl)
  (by
    rintro i σ hi rfl hp
    simp only [dif_pos hi] at hp;have hp'':=eq_true (of_decide_eq_true hp);have hi':=eq_true (show (i:Int)<(l.length:Int) by omega);refine ⟨σ,?_,rfl⟩;unfold t43_0;simp (disch:=try exact dD _) only [↓reduceIte,↓rK,rP,hi',hp''])
  (by
    rintro σ rfl
    refine ⟨σ,?_,rfl⟩;have hi':=eq_false (show ¬(l.length:Int)<(l.length:Int) by omega);unfold t43_0;simp (disch:=try exact dD _) only [↓reduceIte,↓rK,rO,hi'])
  l.length 0 k τ (by omega) hk rfl
 obtain ⟨σ,h3,rfl⟩:=hl2;unfold t43 t43_1;rw [show ((0:Nat):Int)=0 from rfl,G7 (λx=>decide (s=x)) _ _ (by intro i hi;simp only [dif_pos hi])] at h3;have e:find s l=match l.findIdx? (λx=>decide (s=x)) with | some i=>(i:Int) | none=>-1:=by
  have:=IY (λx:B=>x) s l;rw [List.map_id'] at this;rw [this];have e2:(λx:B=>decide (x=s))=λx=>decide (s=x):=by funext x;exact decide_eq_decide.2 ⟨λh=>h.symm,λh=>h.symm⟩
  rw [e2];cases l.findIdx? (λx=>decide (s=x))<;>rfl
 rw [e];simp (disch:=try exact dD _) only [↓rK,rP,h3];cases l.findIdx? (λx=>decide (s=x)) with
 | none=>simp only [↓rK,rP,AL];rfl
 | some j=>simp only [↓rK,rP,AL]
theorem ZX {call:SS.Call} {k:Nat} (h: ∀ (l:List B) (s:B) τ,l.length<1000000->call 43 [(AA AC).enc l,.str s] τ=some (.int .i64 (find s l),τ)) (l:List B) (hl:l.length<1000000) (s:B) (τ:St):t85 call k [(AA AC).enc l,.str s] τ=some (.bool (decide (0<=find s l)),τ):=by
 unfold t85;simp (disch:=try exact dD _) only [↓rK,rO,AL,h]
theorem OM (s:B):V.cellsF (.str s)=[.str s]:=by rw [V.zAb];rfl
structure LM (call:SS.Call):Prop where
 idxVar: ∀ (l:List Var) (b:Nat) (s:B) σ,l.length<1000000->DL σ b s->∃ σ',call 110 [(AA Az).enc l,.fn 131 [.ptr b 0 0]] σ=some (.int .i64 (find s (l.map (·.name))),σ')/\CS σ σ'
 hasVar: ∀ (l:List Var) (b:Nat) (s:B) σ,l.length<1000000->DL σ b s->∃ σ',call 82 [(AA Az).enc l,.fn 83 [.ptr b 0 0]] σ=some (.bool (decide (0<=find s (l.map (·.name)))),σ')/\CS σ σ'
 idxProc: ∀ (l:List Bi) (b:Nat) (s:B) σ,l.length<1000000->DL σ b s->∃ σ',call 132 [(AA BH).enc l,.fn 133 [.ptr b 0 0]] σ=some (.int .i64 (find s (l.map (·.name))),σ')/\CS σ σ'
theorem wY {call:SS.Call} (h:LM call) {k:Nat} (m:AQ) (s:B) (hm:Ae m): ∃ σ,t111 call k [AP.enc m,.str s] .empty=some (.int .i64 (m.variable s),σ):=by
 have hn:DL ((St.empty.new (.blk [(AA Az).enc m.vars,(AA BH).enc m.procs,(AA BF).enc m.trans] 30 0 false)).new (.blk [.str s] 9 0 false)) 1 s:=⟨by rw [Aa,Aa,BD];omega,[],9,by simp (disch:=decide) [St.zAe,Aa,BD]⟩
 obtain ⟨σ',c1,c2⟩:=h.idxVar m.vars 1 s _ hm.vars hn;generalize hw:t111 call k [AP.enc m,.str s] .empty=w;unfold t111 at hw;simp (disch:=try exact dD _) only [↓reduceIte,↓rK,rO,AL,Nat.reduceEqDiff,OM,c1] at hw;exact ⟨_,hw.symm⟩
theorem bE (s:B) (l:List B): -1<=find s l:=by
 unfold find
 split<;>omega
theorem pQ {call:SS.Call} (h:LM call) (h2: ∀ (l:List B) (s:B) τ,l.length<1000000->call 43 [(AA AC).enc l,.str s] τ=some (.int .i64 (find s l),τ)) {k:Nat} (m:AQ) (s q:B) (hm:Ae m): ∃ σ,t112 call k [AP.enc m,.str s,.str q] .empty=some (.tup [.int .i64 (m.process s),.int .i64 (m.place (m.process s) q)],σ):=by
 have hn:DL ((St.empty.new (.blk [(AA Az).enc m.vars,(AA BH).enc m.procs,(AA BF).enc m.trans] 30 0 false)).new (.blk [.str s] 9 0 false)) 1 s:=⟨by rw [Aa,Aa,BD];omega,[],9,by simp (disch:=decide) [St.zAe,Aa,BD]⟩
 obtain ⟨σ',c1,c2⟩:=h.idxProc m.procs 1 s _ hm.procs hn;have hI:σ'.get 0=some (.blk [(AA Az).enc m.vars,(AA BH).enc m.procs,(AA BF).enc m.trans] 30 0 false):=by
  rw [c2.2 0 (by rw [Aa,Aa,BD];omega)];simp (disch:=decide) [St.zAe,Aa,BD]
 have hge:=bE s (m.procs.map (·.name));have hlt:=P4 m s;generalize hw:t112 call k [AP.enc m,.str s,.str q] .empty=w;unfold t112 at hw;have hpe:find s (m.procs.map (·.name))=m.process s:=rfl;rw [hpe] at c1 hge;by_cases hneg:m.process s<0
 ·have hneg':=eq_true hneg;simp (disch:=try exact dD _) only [↓reduceIte,↓rK,rO,AL,Nat.reduceEqDiff,OM,c1,hneg'] at hw;have e1:m.process s=-1:=by omega
  have e2:m.place (m.process s) q=-1:=by unfold AQ.place;rw [if_pos hneg]
  rw [e2,e1];exact ⟨_,hw.symm⟩
 ·have hneg':=eq_false hneg;obtain ⟨n,hp⟩: ∃ n:Nat,m.process s=(n:Int):=⟨(m.process s).toNat,by omega⟩
  rw [hp] at c1 hneg' hlt;have hn2:n<m.procs.length:=by omega
  have hl:=(hm.proc _ (List.getElem_mem hn2)).2.1;have h2':=λτ=>h2 m.procs[n].locs q τ hl
  simp (disch:=try exact dD _) only [↓reduceIte,↓rK,rO,AL,Nat.reduceEqDiff,OM,c1,hneg',hI,h2'] at hw;have e2:m.place (m.process s) q=find q m.procs[n].locs:=by
   unfold AQ.place;rw [if_neg hneg,hp,Int.toNat_natCast,List.getElem?_eq_getElem hn2]
  rw [e2,hp];exact ⟨_,hw.symm⟩
theorem lS {call:SS.Call} {k:Nat} (h1: ∀ (m:AQ) (s:B) τ,Ae m->call 111 [AP.enc m,.str s] τ=some (.int .i64 (m.variable s),τ)) (h2: ∀ (m:AQ) (s q:B) τ,Ae m->call 112 [AP.enc m,.str s,.str q] τ=some (.tup [.int .i64 (m.process s),.int .i64 (m.place (m.process s) q)],τ))
 (h3: ∀ (l:List Ao) τ,Ci l->call 113 [(AA Al).enc l] τ=some (.bool (Cl l),τ)) (m:AQ) (l:List Ao) (hm:Ae m) (hs:Ci l) (hk:l.length<k) :
 ∃ σ,t84 call k [AP.enc m,(AA Al).enc l] .empty=some (.bool (m.known l),σ):=by
 have hlen:=hs.1
 have hb: ∀ (i:Nat) τ (hi:i<l.length),τ.get 0=some (.blk (V.cellsF (AP.enc m)) 30 0 false)/\0<τ.n ->
  ∃ τ',t84_1 call k [(AA Al).enc l,.ptr 0 0 0,(AA Al).enc l,.int .i64 (l.length:Int),.int .i64 (i:Int)] τ=(bif m.knows l[i] then some (.norm,[(AA Al).enc l,.ptr 0 0 0,(AA Al).enc l,.int .i64 (l.length:Int),.int .i64 ((i+1:Nat):Int)],τ') else some (.ret,[.bool false],τ'))/\τ'.get 0=some (.blk (V.cellsF (AP.enc m)) 30 0 false)/\0<τ'.n:=by
  rintro i τ hi ⟨hI,hn⟩
  have hi':=eq_true (show (i:Int)<(l.length:Int) by omega);refine ⟨(τ.new (.blk [.int .i64 0,.int .i64 0,.str [],.str []] 122 0 false)).put τ.n (.blk [.int .i64 l[i].op,.int .i64 l[i].n,.str l[i].name,.str l[i].loc] 122 0 false),?_,by rw [St.zAg,if_neg (by omega),St.zAe,if_neg (by omega)];exact hI,by rw [A9,Aa];omega⟩;unfold t84_1 t84_0 AQ.knows;by_cases o2:l[i].op=2
  ·have o2':=eq_true o2;by_cases hv:m.variable l[i].name<0
   ·have hv':=eq_true hv;have hv2:=decide_eq_false (show ¬0<=m.variable l[i].name by omega);simp (disch:=try exact dD _) only [↓reduceIte,↓rK,rO,Nat.reduceAdd,hi',Ay Cv,o2',hI,h1,hv',hv2,cond_false]
   ·have hv':=eq_false hv;have hv2:=decide_eq_true (show 0<=m.variable l[i].name by omega);simp (disch:=try exact dD _) only [↓reduceIte,↓rK,rO,Nat.reduceAdd,hi',Ay Cv,o2',hI,h1,hv',hv2,cond_true];rfl
  ·have o2':=eq_false o2;by_cases o3:l[i].op=3
   ·have o3':=eq_true o3;by_cases hv:m.place (m.process l[i].name) l[i].loc<0
    ·have hv':=eq_true hv;have hv2:=decide_eq_false (show ¬0<=m.place (m.process l[i].name) l[i].loc by omega);simp (disch:=try exact dD _) only [↓reduceIte,↓rK,rO,Nat.reduceAdd,hi',Ay Cv,o2',o3',hI,h2,hv',hv2,cond_false]
    ·have hv':=eq_false hv;have hv2:=decide_eq_true (show 0<=m.place (m.process l[i].name) l[i].loc by omega);simp (disch:=try exact dD _) only [↓reduceIte,↓rK,rO,Nat.reduceAdd,hi',Ay Cv,o2',o3',hI,h2,hv',hv2,cond_true];rfl
   ·have o3':=eq_false o3;simp (disch:=try exact dD _) only [↓reduceIte,↓rK,rO,hi',Ay Cv,o2',o3',cond_true];rfl
 obtain ⟨τ,h6,h7⟩:=D6 (P:=t84_1 call k) (I:=λτ=>τ.get 0=some (.blk (V.cellsF (AP.enc m)) 30 0 false)/\0<τ.n) (mk:=λi=>[(AA Al).enc l,.ptr 0 0 0,(AA Al).enc l,.int .i64 (l.length:Int),.int .i64 (i:Int)]) (fin:=[(AA Al).enc l]) (res:=[.bool false]) (id:=0) (n:=l.length)
  (ok:=λi=>if h:i<l.length then m.knows l[i] else true)
  (by
    intro i τ hi hI ho;simp only [dif_pos hi] at ho;obtain ⟨τ',g1,g2⟩:=hb i τ hi hI;exact ⟨τ',by rw [g1,ho];rfl,g2⟩)
  (by
    intro i τ hi hI ho;simp only [dif_pos hi] at ho;obtain ⟨τ',g1,g2⟩:=hb i τ hi hI;exact ⟨τ',by rw [g1,ho];rfl,g2⟩)
  (by
    rintro τ ⟨hI,hn⟩
    refine ⟨τ,?_,hI,hn⟩;have hi':=eq_false (show ¬(l.length:Int)<(l.length:Int) by omega);unfold t84_1;simp (disch:=try exact dD _) only [↓reduceIte,↓rK,rP,hi'])
  l.length 0 k (St.empty.new (.blk (V.cellsF (AP.enc m)) 30 0 false)) (by omega) hk ⟨rfl,by rw [Aa];omega⟩
 rw [show ((0:Nat):Int)=0 from rfl,JR (p:=m.knows) (by intro i hi;simp only [dif_pos hi])] at h6;refine ⟨τ,?_⟩;unfold t84 t84_2 AQ.known;simp only [Cj] at h6;simp (disch:=try exact dD _) only [↓rK,rP,h6];cases l.all m.knows with
 | false=>simp only [rP,AL,cond_false]
 | true=>simp (disch:=try exact dD _) only [↓rK,rP,AL,cond_true,h3]
theorem uW {call:SS.Call} {k:Nat} (h1: ∀ (s:B) τ,s.length<1000000->call 114 [.str s] τ=some (.bool (isWord s),τ)) (s:B) (hs:s.length<1000000) (τ:St):t86 call k [.str s] τ=some (.bool (Eb s),τ):=by
 unfold t86 Eb;by_cases h0:s=[]
 ·subst h0;simp (disch:=try exact dD _) only [↓reduceIte,↓rK,rP,AL];rfl
 ·have h0':=eq_false h0;have hb:(s==[])=false:=by simpa using h0
  have hpos:0<s.length:=List.length_pos_iff.2 h0;have e1:(s.length:Int) - 1=((s.length - 1:Nat):Int):=by omega
  have hd:s.take (s.length - 1 - 0)=s.dropLast:=by rw [Nat.sub_zero,List.dropLast_eq_take]
  have hdl:s.dropLast.length<1000000:=by rw [List.length_dropLast];omega
  have hlast:s.getLast? = some (s[s.length - 1]'(by omega)):=by rw [List.getLast?_eq_getElem?,List.getElem?_eq_getElem (by omega)]
  have hx:=λ(K:Int->Option (AEx×List V×St))=>Ql (s:=s) (n:=s.length - 1) (by omega) K
  rw [hlast,hb];generalize s[s.length - 1]'(by omega)=c at *;have e33:decide (by8 c=33)=(some c==some (33:UInt8)):=by
   rw [Bool.eq_iff_iff];simp only [decide_eq_true_eq,beq_iff_eq,Option.some.injEq];constructor
   ·intro h;exact UInt8.toNat_inj.1 (by unfold by8 at h;show c.toNat=33;omega)
   ·rintro rfl;rfl
  have e63:decide (by8 c=63)=(some c==some (63:UInt8)):=by
   rw [Bool.eq_iff_iff];simp only [decide_eq_true_eq,beq_iff_eq,Option.some.injEq];constructor
   ·intro h;exact UInt8.toNat_inj.1 (by unfold by8 at h;show c.toNat=63;omega)
   ·rintro rfl;rfl
  simp (disch:=try exact dD _) only [↓reduceIte,↓rK,rO,AL,h0',e1,hx,hd,h1,e33,e63]
theorem Y6 (call:SS.Call) (k:Nat) (v:Var): ∃ σ,t87 call k [Az.enc v] .empty=some (.bool (decide (v.low<=v.init)&&(decide (v.init<=v.high)&&(decide (-999<=v.low)&&decide (v.high<=999)))),σ):=by
 generalize hw:t87 call k [Az.enc v] .empty=w;unfold t87 at hw;simp (disch:=try exact dD _) only [↓reduceIte,↓rK,rO,AL] at hw;refine ⟨_,hw.symm.trans (congrArg (λb=>some (V.bool b,_)) ?_)⟩;have:(Int.negSucc 998)=-999:=rfl;rw [this];cases decide (-999<=v.low)<;>cases decide (v.low<=v.init)<;>cases decide (v.init<=v.high)<;>cases decide (v.high<=999)<;>rfl
def AQ.zAp (m:AQ) (s:B):List B:=match m.procs.findIdx? (λp=>decide (p.name=s)) with
 | some i=>(match m.procs[i]? with | some p=>p.locs | none=>[])
 | none=>[]
theorem pU (m:AQ) (s q:B):find q (AQ.zAp m s)=m.place (m.process s) q:=by
 unfold AQ.zAp AQ.place AQ.process;rw [IY];cases h:m.procs.findIdx? (λp=>decide (p.name=s)) with
 | none=>simp [find]
 | some i =>
  have hi:=(List.findIdx?_eq_some_iff_getElem.1 h).1;simp only [List.getElem?_eq_getElem hi];rw [if_neg (by omega),Int.toNat_natCast,List.getElem?_eq_getElem hi]
theorem pV {call:SS.Call} {k:Nat} (m:AQ) (s:B) (hm:Ae m) (hk:m.procs.length<k): ∃ v σ,t81 call k [AP.enc m,.str s] .empty=some (v,σ)/\Bn env σ v ((AA AC).enc (AQ.zAp m s)):=by
 have hlen:=hm.procs;have hb: ∀ (i:Nat) τ (hi:i<m.procs.length),∃ τ',t81_0 call k [.str s,(AA BH).enc m.procs,.int .i64 (m.procs.length:Int),.int .i64 (i:Int)] τ=(if decide (m.procs[i].name=s)=true then some (.ret,[(AA AC).enc m.procs[i].locs],τ') else some (.norm,[.str s,(AA BH).enc m.procs,.int .i64 (m.procs.length:Int),.int .i64 ((i+1:Nat):Int)],τ')):=by
  intro i τ hi;have hi':=eq_true (show (i:Int)<(m.procs.length:Int) by omega);generalize hw:t81_0 call k [.str s,(AA BH).enc m.procs,.int .i64 (m.procs.length:Int),.int .i64 (i:Int)] τ=w;unfold t81_0 at hw;by_cases hp:m.procs[i].name=s
  ·have hp':=eq_true hp;simp (disch:=try exact dD _) only [↓reduceIte,↓rK,rP,hi',Ay EO,hp'] at hw;exact ⟨_,by rw [decide_eq_true hp];exact hw.symm⟩
  ·have hp':=eq_false hp;simp (disch:=try exact dD _) only [↓reduceIte,↓rK,rP,hi',Ay EO,hp'] at hw;exact ⟨_,by rw [decide_eq_false hp];exact hw.symm⟩
 have hl2:=Hd (P:=t81_0 call k) (I:=λ_=>True) (mk:=λi=>[.str s,(AA BH).enc m.procs,.int .i64 (m.procs.length:Int),.int .i64 (i:Int)]) (res:=λi=>[(AA AC).enc (match m.procs[i]? with | some p=>p.locs | none=>[])]) (fin:=[]) (id:=0) (n:=m.procs.length)
  (p:=λi=>if h:i<m.procs.length then decide (m.procs[i].name=s) else false)
  (by
    rintro i τ hi _ hp
    simp only [dif_pos hi] at hp;obtain ⟨τ',g⟩:=hb i τ hi;rw [hp] at g;exact ⟨τ',g,trivial⟩)
  (by
    rintro i τ hi _ hp
    simp only [dif_pos hi] at hp;obtain ⟨τ',g⟩:=hb i τ hi;rw [hp] at g;rw [List.getElem?_eq_getElem hi];exact ⟨τ',g,trivial⟩)
  (by
    rintro τ _
    refine ⟨τ,?_,trivial⟩;have hi':=eq_false (show ¬(m.procs.length:Int)<(m.procs.length:Int) by omega);unfold t81_0;simp (disch:=try exact dD _) only [↓reduceIte,↓rK,rO,hi'])
  m.procs.length 0 k (St.empty.new (.blk (V.cellsF (AP.enc m)) 30 0 false)) (by omega) hk trivial
 obtain ⟨σ,h3,_⟩:=hl2;rw [show ((0:Nat):Int)=0 from rfl,G7 (λx=>decide (x.name=s)) _ _ (by intro i hi;simp only [dif_pos hi])] at h3;simp only [Cj] at h3;generalize hw:t81 call k [AP.enc m,.str s] .empty=w;unfold t81 t81_1 at hw;simp (disch:=try exact dD _) only [↓reduceIte,↓rK,rP,h3] at hw;unfold AQ.zAp;cases hf:m.procs.findIdx? (λx=>decide (x.name=s)) with
 | none =>
  rw [hf] at hw;simp only [↓rK,rP,AL] at hw;exact ⟨_,_,hw.symm,.inr ⟨(by intro h;cases h),rfl⟩⟩
 | some j =>
  rw [hf] at hw;simp only [↓rK,rP,AL] at hw;exact ⟨_,_,hw.symm,BV⟩
def Ea:List B->Nat->List (V×V×Nat)
 | [],_=>[]
 | s :: r,n=>(.str s,.bool true,n) :: Ea r (n+1)
theorem VQ: ∀ (l:List B) (s:B) (n:Nat),Ea (l++[s]) n=Ea l n++[(.str s,.bool true,n+l.length)]
 | [],s,n=>rfl
 | a :: l,s,n=>by
  show (V.str a,V.bool true,n) :: Ea (l++[s]) (n+1)=_;rw [VQ l s (n+1)];show _=(V.str a,V.bool true,n) :: (Ea l (n+1)++[(.str s,.bool true,n+(a :: l).length)]);rw [show n+1+l.length=n+(a :: l).length by simp;omega]
theorem WG:env.P.underlying 163=some (.map 9 4):=by kernel_rfl
theorem wL:env.P.underlying 9=some .string:=by kernel_rfl
theorem yC:Cm env.P 4=some (.bool false):=by kernel_rfl
theorem PW (a b:B):DY env.P 9 (.str a) (.str b)=some (decide (a=b)):=by
 have h:DY env.P 9 (.str a) (.str b)=some (ED a b):=by
  unfold DY;rw [wL];rfl
 rw [h,<-KQ,NS]
theorem Oy (s:B): ∀ (l:List B) (n i:Nat),if s∈l then ∃ j b,EL env.P 9 (.str s) (Ea l n) i=some (some (j,.bool true,b)) else EL env.P 9 (.str s) (Ea l n) i=some none
 | [],n,i=>by simp [Ea,EL]
 | a :: l,n,i=>by
  have ih:=Oy s l (n+1) (i+1);have e:EL env.P 9 (.str s) (Ea (a :: l) n) i=(match some (decide (s=a)) with | some true=>some (some (i,.bool true,n)) | some false=>EL env.P 9 (.str s) (Ea l (n+1)) (i+1) | none=>none):=by
   rw [<-PW];rfl
  by_cases h:s=a
  ·rw [if_pos (by simp [h])];rw [decide_eq_true h] at e;exact ⟨i,n,e⟩
  ·rw [decide_eq_false h] at e;by_cases h2:s∈l
   ·rw [if_pos h2] at ih;rw [if_pos (by simp [h2])];obtain ⟨j,b,h3⟩:=ih;exact ⟨j,b,e.trans h3⟩
   ·rw [if_neg h2] at ih;rw [if_neg (by simp [h,h2])];exact e.trans ih
theorem mT {σ:St} {l:List B} {c:Nat} (hg:σ.get 0=some (.map (Ea l 0) c)) (s:B):Ik env 163 (.map 0) (.str s) false σ=some (.bool (decide (s∈l))):=by
 unfold Ik;rw [WG];simp only [hg];rw [PW,decide_eq_true rfl];have:=Oy s l 0 0;by_cases h:s∈l
 ·rw [if_pos h] at this;obtain ⟨j,b,h3⟩:=this;rw [h3,decide_eq_true h];rfl
 ·rw [if_neg h] at this;rw [this,decide_eq_false h,yC];rfl
theorem qI {σ:St} {l:List B} (hg:σ.get 0=some (.map (Ea l 0) l.length)) (s:B) (h:s∉l):Im env 163 (.map 0) (.str s) (.bool true) σ=some (σ.put 0 (.map (Ea (l++[s]) 0) (l++[s]).length)):=by
 unfold Im;rw [WG];simp only [hg];rw [PW,decide_eq_true rfl];have:=Oy s l 0 0;rw [if_neg h] at this;rw [this,VQ,Nat.zero_add,List.length_append];rfl
theorem LA: ∀ l:List B,twice l=false↔∀ i (h:i<l.length),l[i]∉l.take i
 | []=>by simp [twice]
 | a :: l=>by
  show (twice l||l.contains a)=false↔_;rw [Bool.or_eq_false_iff,LA l];constructor
  ·rintro ⟨h1,h2⟩ i hi
   cases i with
   | zero=>simp
   | succ i =>
    have hi2:i<l.length:=by simpa using hi
    simp only [List.getElem_cons_succ,List.take_succ_cons,List.mem_cons,not_or];refine ⟨?_,h1 i hi2⟩;intro e;have:l.contains a=true:=by rw [List.contains_iff_mem];rw [<-e];exact List.getElem_mem hi2
    rw [h2] at this;cases this
  ·intro h;refine ⟨λi hi=>?_,?_⟩
   ·have:=h (i+1) (by simpa using hi);simp only [List.getElem_cons_succ,List.take_succ_cons,List.mem_cons,not_or] at this;exact this.2
   ·cases hc:l.contains a with
    | false=>rfl
    | true =>
     rw [List.contains_iff_mem] at hc;obtain ⟨i,hi,e⟩:=List.getElem_of_mem hc;have:=h (i+1) (by simpa using hi);simp only [List.getElem_cons_succ,List.take_succ_cons,List.mem_cons,not_or] at this;exact absurd e this.1
theorem nQ {call:SS.Call} {k:Nat} (h1: ∀ (s:B) τ,s.length<1000000->call 114 [.str s] τ=some (.bool (isWord s),τ)) (l:List B) (hl:l.length<1000000) (hs: ∀ s∈l,s.length<1000000) (hk:l.length<k) :
 ∃ σ,t88 call k [(AA AC).enc l] .empty=some (.bool (l.all isWord&&!twice l),σ):=by
 obtain ⟨e,vs',σ,q1,q2,q3⟩:=Bl (P:=t88_0 call k) (Inv:=λr v σ=>∃ i:Nat,r+i=l.length/\v=[.map 0,(AA AC).enc l,.int .i64 (l.length:Int),.int .i64 (i:Int)]/\σ.get 0=some (.map (Ea (l.take i) 0) (l.take i).length)/\∀ j (h:j<l.length),j<i->isWord l[j]=true/\l[j]∉l.take j)
  (Q:=λy=>(y.1=.exit 0/\y.2.1=[]/\(l.all isWord&&!twice l)=true)\/(y.1=.ret/\y.2.1=[.bool false]/\(l.all isWord&&!twice l)=false))
  (by
    rintro r v σ ⟨i,hr,rfl,hI,hall⟩
    generalize hw:t88_0 call k [.map 0,(AA AC).enc l,.int .i64 (l.length:Int),.int .i64 (i:Int)] σ=w;unfold t88_0 at hw;by_cases hi:i<l.length
    ·have hi':=eq_true (show (i:Int)<(l.length:Int) by omega);have hsi:=hs _ (List.getElem_mem hi);have hlook:=mT hI l[i];have h1':=h1 l[i] σ hsi;cases hw1:isWord l[i] with
     | false =>
      rw [hw1] at h1';simp (disch:=try exact dD _) only [↓reduceIte,↓rK,rO,hi',h1'] at hw;refine .inr ⟨_,_,σ,hw.symm,(by intro h;cases h),.inr ⟨rfl,rfl,?_⟩⟩;have:l.all isWord=false:=by
       rw [List.all_eq_false];exact ⟨_,List.getElem_mem hi,by rw [hw1];simp⟩
      rw [this];rfl
     | true =>
      rw [hw1] at h1';by_cases hm:l[i]∈l.take i
      ·rw [decide_eq_true hm] at hlook;simp (disch:=try exact dD _) only [↓reduceIte,↓rK,rO,hi',h1',hlook] at hw;refine .inr ⟨_,_,σ,hw.symm,(by intro h;cases h),.inr ⟨rfl,rfl,?_⟩⟩;have:twice l=true:=by
        cases ht:twice l with
        | true=>rfl
        | false=>exact absurd hm ((LA l).1 ht i hi)
       rw [this];simp
      ·rw [decide_eq_false hm] at hlook;have hput:=qI hI l[i] hm;rw [<-List.take_succ_eq_append_getElem hi] at hput;simp (disch:=try exact dD _) only [↓reduceIte,↓rK,rO,hi',h1',hlook,hput] at hw;refine .inl ⟨r - 1,_,_,by omega,hw.symm,i+1,by omega,rfl,by rw [St.zAg,if_pos rfl],λj hj hj2=>?_⟩;by_cases hji:j=i
       ·subst hji;exact ⟨hw1,hm⟩
       ·exact hall j hj (by omega)
    ·have he:i=l.length:=by omega
     subst he;have hi':=eq_false (show ¬(l.length:Int)<(l.length:Int) by omega);simp (disch:=try exact dD _) only [↓reduceIte,↓rK,rO,hi'] at hw;refine .inr ⟨_,_,σ,hw.symm,(by intro h;cases h),.inl ⟨rfl,rfl,?_⟩⟩;have a1:l.all isWord=true:=by
      rw [List.all_eq_true];intro x hx;obtain ⟨j,hj,rfl⟩:=List.getElem_of_mem hx;exact (hall j hj hj).1
     have a2:twice l=false:=(LA l).2 λj hj=>(hall j hj hj).2
     rw [a1,a2];rfl)
  l.length k [.map 0,(AA AC).enc l,.int .i64 (l.length:Int),.int .i64 0] (St.empty.new (.map [] 0)) hk ⟨0,by omega,rfl,rfl,λj _ h=>by omega⟩
 refine ⟨σ,?_⟩;rcases q3 with ⟨e1,e2,e3⟩ | ⟨e1,e2,e3⟩
 ·simp only at e1 e2;subst e1 e2;unfold t88 t88_1;simp (disch:=try exact dD _) only [↓rK,rO,AL,q1];rw [e3]
 ·simp only at e1 e2;subst e1 e2;unfold t88;simp (disch:=try exact dD _) only [↓rK,rO,AL,q1];rw [e3]
def bnd (v:Var):Bool:=decide (v.low<=v.init)&&(decide (v.init<=v.high)&&(decide (-999<=v.low)&&decide (v.high<=999)))
def Gc (l:List B):Bool:=l.all isWord&&!twice l
def plc (p:Bi):Bool:=decide (1<=p.locs.length)&&(decide (p.locs.length<=6)&&Gc p.locs)
structure NZ (call:SS.Call):Prop where
 bounded: ∀ (v:Var) τ,call 87 [.agg [.str v.name,.int .i64 v.low,.int .i64 v.high,.int .i64 v.init]] τ=some (.bool (bnd v),τ)
 names: ∀ (v:V) (l:List B) τ,Bd env τ [v]=some [(AA AC).enc l]->l.length<1000000->(∀ s∈l,s.length<1000000)->call 88 [v] τ=some (.bool (Gc l),τ)
theorem nX {call:SS.Call} (h:NZ call) {k:Nat} (m:AQ) (hm:Ae m) (hk:m.vars.length<k) (τ0:St) (h0:τ0.get 0=some (.blk (V.cellsF (AP.enc m)) 30 0 false)) (hn0:0<τ0.n) :
 ∃ e vs' τ,Ai (t65_0 call k) k [.ptr 0 0 0,.nilS,.nilS,(AA Az).enc m.vars,.int .i64 (m.vars.length:Int),.int .i64 0] τ0=some (e,vs',τ)/\e≠.norm /\
  ((e=.exit 0/\∃ x b,vs'=[.ptr 0 0 0,x,.nilS]/\τ.get 0=some (.blk (V.cellsF (AP.enc m)) 30 0 false)/\0<τ.n/\Lst τ 9 1 x m.vars.length (rows AC (m.vars.map (·.name))) b/\b≠0/\m.vars.all bnd=true) \/
   (e=.ret/\vs'=[.bool false]/\m.vars.all bnd=false)):=by
 have h1:=h.bounded;have hlen:=hm.vars
 refine Bl (Inv:=λr vs τ=>∃ (i:Nat) (x:V) (b:Nat),r+i=m.vars.length/\vs=[.ptr 0 0 0,x,.nilS,(AA Az).enc m.vars,.int .i64 (m.vars.length:Int),.int .i64 (i:Int)]/\τ.get 0=some (.blk (V.cellsF (AP.enc m)) 30 0 false)/\0<τ.n/\Lst τ 9 1 x i (rows AC ((m.vars.take i).map (·.name))) b/\b≠0/\(m.vars.take i).all bnd=true)
  (Q:=λy=>(y.1=.exit 0/\∃ x b,y.2.1=[.ptr 0 0 0,x,.nilS]/\y.2.2.get 0=some (.blk (V.cellsF (AP.enc m)) 30 0 false)/\0<y.2.2.n/\Lst y.2.2 9 1 x m.vars.length (rows AC (m.vars.map (·.name))) b/\b≠0/\m.vars.all bnd=true) \/
    (y.1=.ret/\y.2.1=[.bool false]/\m.vars.all bnd=false))
  ?_ m.vars.length k [.ptr 0 0 0,.nilS,.nilS,(AA Az).enc m.vars,.int .i64 (m.vars.length:Int),.int .i64 0] τ0 hk ⟨0,.nilS,1,by omega,rfl,h0,hn0,C5 _ _ _ _,by decide,rfl⟩
 rintro r vs τ ⟨i,x,b,hr,rfl,hI,hn,hL,hb0,hall⟩
 by_cases hi:i<m.vars.length
 ·have hi':=eq_true (show (i:Int)<(m.vars.length:Int) by omega);obtain ⟨b1,hL1,hb1⟩:=EI 5 hL
  have hL2:=hL1.of (σ':=(τ.new (.blk [.str [],.int .i64 0,.int .i64 0,.int .i64 0] 62 0 false)).put τ.n (.blk [.str m.vars[i].name,.int .i64 m.vars[i].low,.int .i64 m.vars[i].high,.int .i64 m.vars[i].init] 62 0 false))
   (λhc=>by rw [St.zAg,if_neg (by omega),St.zAe,if_neg (by omega)]) (by rw [A9,Aa];omega)
  obtain ⟨x',b',σ',ha,hL',hn',hfr,hb',hbn'⟩:=DQ (new:=[.str m.vars[i].name]) hL2 (by omega) rfl (by decide);rw [A9,Aa] at hn' hfr hb';have g0:σ'.get 0=some (.blk (V.cellsF (AP.enc m)) 30 0 false):=by
   rw [hfr 0 (by omega) (by omega),St.zAg,if_neg (by omega),St.zAe,if_neg (by omega)];exact hI
  have hrow:rows AC ((m.vars.take (i+1)).map (·.name))=rows AC ((m.vars.take i).map (·.name))++[.str m.vars[i].name]:=by
   rw [List.take_succ_eq_append_getElem hi,List.map_append];exact DI AC _ _
  have h1':=h1 m.vars[i];obtain ⟨q,hq⟩: ∃ q,t65_0 call k [.ptr 0 0 0,x,.nilS,(AA Az).enc m.vars,.int .i64 (m.vars.length:Int),.int .i64 (i:Int)] τ=q:=⟨_,rfl⟩
  rw [hq];unfold t65_0 at hq;cases hr2:bnd m.vars[i] with
  | false =>
   rw [hr2] at h1';simp (disch:=try exact dD _) only [↓reduceIte,↓rK,rO,Nat.reduceAdd,hi',Ay FW,h1'] at hq;refine .inr ⟨.ret,[.bool false],_,hq.symm,(by intro h;cases h),.inr ⟨rfl,rfl,?_⟩⟩;rw [List.all_eq_false];exact ⟨_,List.getElem_mem hi,by simp [hr2]⟩
  | true =>
   rw [hr2] at h1';simp (disch:=try exact dD _) only [↓reduceIte,↓rK,rO,Nat.reduceAdd,hi',Ay FW,h1',ha] at hq;refine .inl ⟨r - 1,_,σ',by omega,hq.symm,i+1,x',b',by omega,by simp,g0,by omega,?_,by omega,?_⟩
   ·rw [hrow];exact hL'
   ·rw [List.take_succ_eq_append_getElem hi,List.all_append,hall];simp [hr2]
 ·have he:i=m.vars.length:=by omega
  subst he;rw [List.take_length] at hL hall;have hi':=eq_false (show ¬(m.vars.length:Int)<(m.vars.length:Int) by omega);refine .inr ⟨.exit 0,_,τ,?_,(by intro h;cases h),.inl ⟨rfl,x,b,rfl,hI,hn,hL,hb0,hall⟩⟩;unfold t65_0;simp (disch:=try exact dD _) only [↓reduceIte,↓rK,rP,hi']
theorem nW {call:SS.Call} (h:NZ call) {k:Nat} (m:AQ) (hm:Ae m) (hk:m.procs.length<k) (xv:V) (bv nv:Nat) (cv:List V) (τ0:St) (hv0:Lst τ0 9 1 xv nv cv bv) :
 ∃ e vs' τ,Ai (t65_1 call k) k [xv,.nilS,(AA BH).enc m.procs,.int .i64 (m.procs.length:Int),.int .i64 0] τ0=some (e,vs',τ)/\e≠.norm /\
  ((e=.exit 2/\∃ x b bw,vs'=[xv,x]/\Lst τ 9 1 xv nv cv bw/\Lst τ 9 1 x m.procs.length (rows AC (m.procs.map (·.name))) b/\m.procs.all plc=true) \/
   (e=.ret/\vs'=[.bool false]/\m.procs.all plc=false)):=by
 have h2:=h.names;have hlen:=hm.procs
 refine Bl (Inv:=λr vs τ=>∃ (i:Nat) (x:V) (b bv:Nat),r+i=m.procs.length/\vs=[xv,x,(AA BH).enc m.procs,.int .i64 (m.procs.length:Int),.int .i64 (i:Int)]/\Lst τ 9 1 xv nv cv bv/\Lst τ 9 1 x i (rows AC ((m.procs.take i).map (·.name))) b/\b≠bv/\(m.procs.take i).all plc=true)
  (Q:=λy=>(y.1=.exit 2/\∃ x b bw,y.2.1=[xv,x]/\Lst y.2.2 9 1 xv nv cv bw/\Lst y.2.2 9 1 x m.procs.length (rows AC (m.procs.map (·.name))) b/\m.procs.all plc=true) \/
    (y.1=.ret/\y.2.1=[.bool false]/\m.procs.all plc=false))
  ?_ m.procs.length k [xv,.nilS,(AA BH).enc m.procs,.int .i64 (m.procs.length:Int),.int .i64 0] τ0 hk ⟨0,.nilS,bv+1,bv,by omega,rfl,hv0,C5 _ _ _ _,by omega,rfl⟩
 rintro r vs τ ⟨i,x,b,bv,hr,rfl,hV,hL,hbb,hall⟩
 by_cases hi:i<m.procs.length
 ·have hi':=eq_true (show (i:Int)<(m.procs.length:Int) by omega);obtain ⟨hw1,hw2,hw3⟩:=hm.proc _ (List.getElem_mem hi);obtain ⟨b1,hL1,hb1⟩:=EI 5 hL;obtain ⟨bv1,hV1,hbv1⟩:=EI 7 hV;have far: ∀ c,c<τ.n->((τ.new (.blk [.str [],.nilS] 43 0 false)).put τ.n (.blk [.str m.procs[i].name,(AA AC).enc m.procs[i].locs] 43 0 false)).get c=τ.get c:=λc hc=>by rw [St.zAg,if_neg (by omega),St.zAe,if_neg (by omega)]
  have hL2:=hL1.of (σ':=(τ.new (.blk [.str [],.nilS] 43 0 false)).put τ.n (.blk [.str m.procs[i].name,(AA AC).enc m.procs[i].locs] 43 0 false)) (λhc=>far _ hc) (by rw [A9,Aa];omega);have hV2:=hV1.of (σ':=(τ.new (.blk [.str [],.nilS] 43 0 false)).put τ.n (.blk [.str m.procs[i].name,(AA AC).enc m.procs[i].locs] 43 0 false)) (λhc=>far _ hc) (by rw [A9,Aa];omega);obtain ⟨x',b',σ',ha,hL',hn',hfr,hb',hbn'⟩:=DQ (new:=[.str m.procs[i].name]) hL2 (by omega) rfl (by decide);have hV3:=hV2.of (σ':=σ') (λhc=>hfr _ hc (by rw [A9,Aa] at hc;omega)) hn';rw [A9,Aa] at hn' hfr hb';have hrow:rows AC ((m.procs.take (i+1)).map (·.name))=rows AC ((m.procs.take i).map (·.name))++[.str m.procs[i].name]:=by
   rw [List.take_succ_eq_append_getElem hi,List.map_append];exact DI AC _ _
  have htw: ∀ σ,call 88 [(AA AC).enc m.procs[i].locs] σ=some (.bool (Gc m.procs[i].locs),σ):=λσ=>h2 _ _ σ (G9 (by rw [BM,(AA AC).zero];rfl)) hw2 hw3
  obtain ⟨q,hq⟩: ∃ q,t65_1 call k [xv,x,(AA BH).enc m.procs,.int .i64 (m.procs.length:Int),.int .i64 (i:Int)] τ=q:=⟨_,rfl⟩
  rw [hq];unfold t65_1 at hq;have hbad:plc m.procs[i]=false->m.procs.all plc=false:=λhg=>by
   rw [List.all_eq_false];exact ⟨_,List.getElem_mem hi,by simp [hg]⟩
  by_cases c1:(m.procs[i].locs.length:Int)<1
  ·have c1':=eq_true c1;simp (disch:=try exact dD _) only [↓reduceIte,↓rK,rO,hi',Ay EO,c1'] at hq;exact .inr ⟨.ret,[.bool false],_,hq.symm,(by intro h;cases h),.inr ⟨rfl,rfl,hbad (by unfold plc;rw [decide_eq_false (by omega)];rfl)⟩⟩
  ·have c1':=eq_false c1;by_cases c2:6<(m.procs[i].locs.length:Int)
   ·have c2':=eq_true c2;simp (disch:=try exact dD _) only [↓reduceIte,↓rK,rO,hi',Ay EO,c1',c2'] at hq;exact .inr ⟨.ret,[.bool false],_,hq.symm,(by intro h;cases h),.inr ⟨rfl,rfl,hbad (by unfold plc;rw [decide_eq_false (show ¬m.procs[i].locs.length<=6 by omega)];simp)⟩⟩
   ·have c2':=eq_false c2;cases hg:Gc m.procs[i].locs with
    | false =>
     rw [hg] at htw;simp (disch:=try exact dD _) only [↓reduceIte,↓rK,rO,hi',Ay EO,c1',c2',htw] at hq;exact .inr ⟨.ret,[.bool false],_,hq.symm,(by intro h;cases h),.inr ⟨rfl,rfl,hbad (by unfold plc;rw [hg];simp)⟩⟩
    | true =>
     rw [hg] at htw;have hgood:plc m.procs[i]=true:=by unfold plc;rw [hg,decide_eq_true (show 1<=m.procs[i].locs.length by omega),decide_eq_true (show m.procs[i].locs.length<=6 by omega)];rfl
     simp (disch:=try exact dD _) only [↓reduceIte,↓rK,rO,hi',Ay EO,c1',c2',htw,ha] at hq;refine .inl ⟨r - 1,_,σ',by omega,hq.symm,i+1,x',b',bv1,by omega,rfl,hV3,?_,by omega,?_⟩
     ·rw [hrow];exact hL'
     ·rw [List.take_succ_eq_append_getElem hi,List.all_append,hall];simp [hgood]
 ·have he:i=m.procs.length:=by omega
  subst he;rw [List.take_length] at hL hall;have hi':=eq_false (show ¬(m.procs.length:Int)<(m.procs.length:Int) by omega);refine .inr ⟨.exit 2,_,τ,?_,(by intro h;cases h),.inl ⟨rfl,x,b,bv,rfl,hV,hL,hall⟩⟩;unfold t65_1;simp (disch:=try exact dD _) only [↓reduceIte,↓rK,rP,hi']
def Jh (m:AQ):Bool:=m.vars.all bnd&&(m.procs.all plc&&(decide (m.vars.length<=4)&&(Gc (m.vars.map (·.name))&&(decide (1<=m.procs.length)&&(decide (m.procs.length<=3)&&Gc (m.procs.map (·.name)))))))
theorem nP {call:SS.Call} (h:NZ call) {k:Nat} (m:AQ) (hm:Ae m) (hk:m.vars.length<k) (hk2:m.procs.length<k): ∃ σ,t65 call k [AP.enc m] .empty=some (.bool (Jh m),σ):=by
 have h2:=h.names;generalize hw:t65 call k [AP.enc m] .empty=w;unfold t65 at hw;obtain ⟨e,vs',τ,g1,_,g2⟩:=nX h m hm hk (St.empty.new (.blk (V.cellsF (AP.enc m)) 30 0 false)) rfl (by rw [Aa];omega);simp only [Cj] at g1;simp (disch:=try exact dD _) only [↓reduceIte,↓rK,rO,g1] at hw;unfold Jh;rcases g2.symm with ⟨rfl,rfl,hv⟩ | ⟨rfl,x,b,rfl,hI,hn,hL,hb,hv⟩
 ·simp only [↓rK,rO,AL] at hw;rw [hv];exact ⟨_,hw.symm⟩
 unfold t65_3 at hw;obtain ⟨e,vs',τ2,g3,_,g4⟩:=nW h m hm hk2 x b _ _ τ hL;simp (disch:=try exact dD _) only [↓reduceIte,↓rK,rO,hI,g3] at hw;rw [hv];rcases g4.symm with ⟨rfl,rfl,hp⟩ | ⟨rfl,y,b2,b3,rfl,hL2,hL3,hp⟩
 ·simp only [↓rK,rO,AL] at hw;rw [hp];exact ⟨_,hw.symm⟩
 unfold t65_2 at hw;have hl1:m.vars.length=(m.vars.map (·.name)).length:=by simp
 have hl2:m.procs.length=(m.procs.map (·.name)).length:=by simp
 have t1:=λτ' (hτ:τ'=τ2)=>h2 x (m.vars.map (·.name)) τ' (by rw [hτ];exact Ju (by rw [<-hl1];exact hL2)) (by rw [<-hl1];exact hm.vars) (λs hs=>by obtain ⟨v,hv,rfl⟩:=List.mem_map.1 hs;exact hm.var v hv)
 have t2:=λτ' (hτ:τ'=τ2)=>h2 y (m.procs.map (·.name)) τ' (by rw [hτ];exact Ju (by rw [<-hl2];exact hL3)) (by rw [<-hl2];exact hm.procs) (λs hs=>by obtain ⟨v,hv,rfl⟩:=List.mem_map.1 hs;exact (hm.proc v hv).1)
 have t1:=t1 τ2 rfl;have t2:=t2 τ2 rfl;have a1:=λK=>hL2.len (R:=AEx×List V×St) K
 have a2:=λK=>hL3.len (R:=AEx×List V×St) K
 have a3:=λK=>hL2.len (R:=Bool×St) K
 have a4:=λK=>hL3.len (R:=Bool×St) K
 simp only [↓rK,rO,AL,a1,a4,t1,t2] at hw;have d1:decide ((m.vars.length:Int)<=4)=decide (m.vars.length<=4):=decide_eq_decide.2 (by omega);have d2:decide (1<=(m.procs.length:Int))=decide (1<=m.procs.length):=decide_eq_decide.2 (by omega);have d3:decide ((m.procs.length:Int)<=3)=decide (m.procs.length<=3):=decide_eq_decide.2 (by omega);rw [d1,d2,d3] at hw;rw [hp];refine ⟨_,hw.symm.trans (congrArg (λb=>some (V.bool b,_)) ?_)⟩;simp only [Bool.true_and,Bool.and_assoc]
theorem dY {σ σ':St} (e:CS σ σ') {a b:AO} (h0:σ.get 0=some a) (h1:σ.get 1=some b) (hn:2<=σ.n):σ'.get 0=some a/\σ'.get 1=some b/\2<=σ'.n :=
 ⟨by rw [e.2 0 (by omega)];exact h0,by rw [e.2 1 (by omega)];exact h1,by have:=e.1;omega⟩
structure Xw (call:SS.Call):Prop where
 places: ∀ (m:AQ) (s:B) τ,Ae m->call 81 [AP.enc m,.str s] τ=some ((AA AC).enc (AQ.zAp m s),τ)
 contains: ∀ (l:List B) (s:B) τ,l.length<1000000->call 85 [(AA AC).enc l,.str s] τ=some (.bool (decide (0<=find s l)),τ)
 known: ∀ (m:AQ) (l:List Ao) τ,Ae m->Ci l->call 84 [AP.enc m,(AA Al).enc l] τ=some (.bool (m.known l),τ)
 sync: ∀ (s:B) τ,s.length<1000000->call 86 [.str s] τ=some (.bool (Eb s),τ)
theorem nO {call:SS.Call} (h:LM call) (hV:Xw call) {k:Nat} (m:AQ) (t:Br) (hm:Ae m) (hs:Dl t) (hk:t.effs.length<k) :
 ∃ σ,t64 call k [AP.enc m,BF.enc t] .empty=some (.bool (m.rightT t),σ):=by
 have h1:=h.hasVar;have h2:=hV.places;have h3:=hV.contains;have h4:=hV.known;have h5:=hV.sync
 obtain ⟨s1,s2,s3,s4,s5,s6,s7⟩:=hs;have hlen:=s6;generalize hA:AO.blk (V.cellsF (AP.enc m)) 30 0 false=A;generalize hB:AO.blk (V.cellsF (BF.enc t)) 70 0 false=Bk
 have hb: ∀ (i:Nat) τ (hi:i<t.effs.length),τ.get 0=some A/\τ.get 1=some Bk/\2<=τ.n->∀ P:V,
  ∃ τ',t64_0 call k [.ptr 0 0 0,.ptr 1 0 0,P,(AA Bg).enc t.effs,.int .i64 (t.effs.length:Int),.int .i64 (i:Int)] τ=(bif decide (0<=m.variable t.effs[i].name)&&m.known t.effs[i].to then some (.norm,[.ptr 0 0 0,.ptr 1 0 0,P,(AA Bg).enc t.effs,.int .i64 (t.effs.length:Int),.int .i64 ((i+1:Nat):Int)],τ') else some (.ret,[.bool false],τ'))/\τ'.get 0=some A/\τ'.get 1=some Bk/\2<=τ'.n:=by
  rintro i τ hi ⟨hI,hJ,hn⟩ P
  obtain ⟨e1,e2⟩:=s7 _ (List.getElem_mem hi);have hi':=eq_true (show (i:Int)<(t.effs.length:Int) by omega);have hN:DL ((τ.new (.blk [.str [],.nilS] 100 0 false)).put τ.n (.blk [.str t.effs[i].name,(AA Al).enc t.effs[i].to] 100 0 false)) τ.n t.effs[i].name:=⟨by rw [A9,Aa];omega,[(AA Al).enc t.effs[i].to],_,by rw [St.zAg,if_pos rfl]⟩
  obtain ⟨σ',c1,c2⟩:=h1 m.vars τ.n t.effs[i].name _ hm.vars hN;have keep:=dY c2 (a:=A) (b:=Bk) (by rw [St.zAg,if_neg (by omega),St.zAe,if_neg (by omega)];exact hI) (by rw [St.zAg,if_neg (by omega),St.zAe,if_neg (by omega)];exact hJ) (by rw [A9,Aa];omega);have hE:σ'.get τ.n=some (.blk [.str t.effs[i].name,(AA Al).enc t.effs[i].to] 100 0 false):=by
   rw [c2.2 τ.n (by rw [A9,Aa];omega),St.zAg,if_pos rfl]
  have hI':=keep.1;rw [<-hA] at hI hI';refine ⟨σ',?_,keep⟩;have hve:find t.effs[i].name (m.vars.map (·.name))=m.variable t.effs[i].name:=rfl;rw [hve] at c1;have h4':=λτ=>h4 m t.effs[i].to τ hm e2
  unfold t64_0;cases hv:decide (0<=m.variable t.effs[i].name) with
  | false =>
   rw [hv] at c1;simp (disch:=try exact dD _) only [↓reduceIte,↓rK,rO,hi',Ay M9,hI,c1,cond_false]
  | true =>
   rw [hv] at c1;cases hkn:m.known t.effs[i].to with
   | false =>
    rw [hkn] at h4';simp (disch:=try exact dD _) only [↓reduceIte,↓rK,rO,Nat.reduceAdd,hi',Ay M9,hI,c1,hI',hE,h4',cond_false]
   | true =>
    rw [hkn] at h4';simp (disch:=try exact dD _) only [↓reduceIte,↓rK,rO,Nat.reduceAdd,hi',Ay M9,hI,c1,hI',hE,h4',cond_true];rfl
 obtain ⟨τ,g1,hI,hJ,hn⟩:=D6 (P:=t64_0 call k) (I:=λτ=>τ.get 0=some A/\τ.get 1=some Bk/\2<=τ.n) (mk:=λi=>[.ptr 0 0 0,.ptr 1 0 0,(AA AC).enc (AQ.zAp m t.proc),(AA Bg).enc t.effs,.int .i64 (t.effs.length:Int),.int .i64 (i:Int)]) (fin:=[.ptr 0 0 0,.ptr 1 0 0,(AA AC).enc (AQ.zAp m t.proc)]) (res:=[.bool false]) (id:=0) (n:=t.effs.length)
  (ok:=λi=>if h:i<t.effs.length then decide (0<=m.variable t.effs[i].name)&&m.known t.effs[i].to else true)
  (by
    intro i τ hi hI ho;simp only [dif_pos hi] at ho;obtain ⟨τ',g1,g2⟩:=hb i τ hi hI _;exact ⟨τ',by rw [g1,ho];rfl,g2⟩)
  (by
    intro i τ hi hI ho;simp only [dif_pos hi] at ho;obtain ⟨τ',g1,g2⟩:=hb i τ hi hI _;exact ⟨τ',by rw [g1,ho];rfl,g2⟩)
  (by
    intro τ hI;refine ⟨τ,?_,hI⟩;have hi':=eq_false (show ¬(t.effs.length:Int)<(t.effs.length:Int) by omega);unfold t64_0;simp (disch:=try exact dD _) only [↓reduceIte,↓rK,rP,hi'])
  t.effs.length 0 k ((St.empty.new A).new Bk) (by omega) hk ⟨by simp (disch:=decide) [St.zAe,Aa,BD],by simp (disch:=decide) [St.zAe,Aa,BD],by rw [Aa,Aa,BD];omega⟩
 rw [show ((0:Nat):Int)=0 from rfl,JR (p:=λe=>decide (0<=m.variable e.name)&&m.known e.to) (by intro i hi;simp only [dif_pos hi])] at g1;rw [<-hA] at g1 hI;rw [<-hB] at g1 hJ;generalize hw:t64 call k [AP.enc m,BF.enc t] .empty=w;unfold t64 at hw;simp only [Cj,OI] at g1 hI hJ;have h2':=λτ=>h2 m t.proc τ hm
 simp (disch:=try exact dD _) only [↓reduceIte,↓rK,rO,Nat.reduceAdd,Nat.reduceEqDiff,h2',g1] at hw;cases ha:t.effs.all (λe=>decide (0<=m.variable e.name)&&m.known e.to) with
 | false =>
  rw [ha] at hw;simp only [rO,AL,cond_false] at hw;exact ⟨_,hw.symm.trans (congrArg (λb=>some (V.bool b,_)) (by unfold AQ.rightT;rw [ha];simp))⟩
 | true =>
  rw [ha] at hw;have hpl:(AQ.zAp m t.proc).length<1000000:=by
   unfold AQ.zAp
   split
   ·split
    ·rename_i p hp;exact (hm.proc p (List.mem_of_getElem? hp)).2.1
    ·simp
   ·simp
  have h3a:=λτ=>h3 (AQ.zAp m t.proc) t.from_ τ hpl
  have h3b:=λτ=>h3 (AQ.zAp m t.proc) t.to τ hpl
  rw [pU] at h3a h3b;have h4':=λτ=>h4 m t.guard τ hm s5
  have h5':=λτ=>h5 t.sync τ s4
  unfold t64_1 at hw;simp (disch:=try exact dD _) only [↓reduceIte,↓rK,rO,AL,Nat.reduceAdd,cond_true,hI,hJ,h3a,h3b,h4',h5'] at hw;have d1:decide ((t.effs.length:Int)<=3)=decide (t.effs.length<=3):=decide_eq_decide.2 (by omega);rw [d1] at hw;refine ⟨_,hw.symm.trans (congrArg (λb=>some (V.bool b,_)) ?_)⟩;unfold AQ.rightT;rw [ha];cases decide (1<=t.id)<;>cases decide (t.id<=999)<;>cases Eb t.sync<;>cases decide (0<=m.place (m.process t.proc) t.from_)<;>cases decide (0<=m.place (m.process t.proc) t.to)<;>cases m.known t.guard<;>cases decide (t.effs.length<=3)<;>rfl
theorem rQ (m:AQ):(Jh m&&(decide (m.trans.length<=16)&&(m.trans.all m.rightT&&E7 (m.trans.map (·.id)))))=m.right:=by
 have a1:m.vars.all (·.right)=(m.vars.all bnd&&(m.vars.map (·.name)).all isWord):=by
  rw [Bool.eq_iff_iff,Bool.and_eq_true,List.all_eq_true,List.all_eq_true,List.all_eq_true];constructor
  ·intro h;refine ⟨λv hv=>?_,λs hs=>?_⟩
   ·have:=h v hv;unfold Var.right at this;rw [Bool.and_eq_true] at this;exact this.2
   ·obtain ⟨v,hv,rfl⟩:=List.mem_map.1 hs;have:=h v hv;unfold Var.right at this;rw [Bool.and_eq_true] at this;exact this.1
  ·rintro ⟨h1,h2⟩ v hv
   unfold Var.right;rw [Bool.and_eq_true];exact ⟨h2 _ (List.mem_map.2 ⟨v,hv,rfl⟩),h1 v hv⟩
 have a2:m.procs.all (·.right)=(m.procs.all plc&&(m.procs.map (·.name)).all isWord):=by
  rw [Bool.eq_iff_iff,Bool.and_eq_true,List.all_eq_true,List.all_eq_true,List.all_eq_true];have key: ∀ p:Bi,p.right=(isWord p.name&&plc p):=λp=>by
   unfold Bi.right plc Gc;cases p.locs.all isWord<;>cases twice p.locs<;>simp
  constructor
  ·intro h;refine ⟨λv hv=>?_,λs hs=>?_⟩
   ·have:=h v hv;rw [key,Bool.and_eq_true] at this;exact this.2
   ·obtain ⟨v,hv,rfl⟩:=List.mem_map.1 hs;have:=h v hv;rw [key,Bool.and_eq_true] at this;exact this.1
  ·rintro ⟨h1,h2⟩ v hv
   rw [key,Bool.and_eq_true];exact ⟨h2 _ (List.mem_map.2 ⟨v,hv,rfl⟩),h1 v hv⟩
 unfold AQ.right Jh Gc;rw [a1,a2];cases m.vars.all bnd<;>cases m.procs.all plc<;>cases decide (m.vars.length<=4)<;>cases decide (1<=m.procs.length)<;>cases decide (m.procs.length<=3)<;>cases decide (m.trans.length<=16)<;>cases (m.vars.map (·.name)).all isWord<;>cases (m.procs.map (·.name)).all isWord<;>cases twice (m.vars.map (·.name))<;>cases twice (m.procs.map (·.name))<;>simp
theorem rF {call:SS.Call} {k:Nat} (h1: ∀ (m:AQ) (t:Br) τ,Ae m->Dl t->call 64 [AP.enc m,BF.enc t] τ=some (.bool (m.rightT t),τ)) (h2: ∀ (m:AQ) τ,Ae m->call 65 [AP.enc m] τ=some (.bool (Jh m),τ)) (m:AQ) (hm:Ae m) (hk:m.trans.length<k) :
 ∃ σ,t36 call k [AP.enc m] .empty=some (.bool m.right,σ):=by
 have hlen:=hm.trans
 have hb: ∀ (i:Nat) τ (hi:i<m.trans.length),τ.get 0=some (.blk (V.cellsF (AP.enc m)) 30 0 false)/\0<τ.n ->
  ∃ τ',t36_0 call k [.ptr 0 0 0,(AA BF).enc m.trans,.int .i64 (m.trans.length:Int),.int .i64 (i:Int)] τ=(bif m.rightT m.trans[i]&&(decide (i=0)||decide ((m.trans[i - 1]'(by omega)).id<m.trans[i].id)) then some (.norm,[.ptr 0 0 0,(AA BF).enc m.trans,.int .i64 (m.trans.length:Int),.int .i64 ((i+1:Nat):Int)],τ') else some (.ret,[.bool false],τ'))/\τ'.get 0=some (.blk (V.cellsF (AP.enc m)) 30 0 false)/\0<τ'.n:=by
  rintro i τ hi ⟨hI,hn⟩
  have hw:=hm.tran _ (List.getElem_mem hi);have hi':=eq_true (show (i:Int)<(m.trans.length:Int) by omega);refine ⟨(τ.new (.blk [.int .i64 0,.str [],.str [],.str [],.str [],.nilS,.nilS] 70 0 false)).put τ.n (.blk [.int .i64 m.trans[i].id,.str m.trans[i].proc,.str m.trans[i].from_,.str m.trans[i].to,.str m.trans[i].sync,(AA Al).enc m.trans[i].guard,(AA Bg).enc m.trans[i].effs] 70 0 false),?_,by rw [St.zAg,if_neg (by omega),St.zAe,if_neg (by omega)];exact hI,by rw [A9,Aa];omega⟩;have h1':=λτ=>h1 m m.trans[i] τ hm hw
  have et: ∀ t:Br,V.agg [.int .i64 t.id,.str t.proc,.str t.from_,.str t.to,.str t.sync,(AA Al).enc t.guard,(AA Bg).enc t.effs]=BF.enc t:=λ_=>rfl
  unfold t36_0;cases hr:m.rightT m.trans[i] with
  | false =>
   rw [hr] at h1';simp (disch:=try exact dD _) only [↓reduceIte,↓rK,rO,Nat.reduceAdd,hi',Ay FV,hI,et,h1',cond_false]
  | true =>
   rw [hr] at h1';by_cases hz:i=0
   ·subst hz;have hz':=eq_false (show ¬(0:Int)<((0:Nat):Int) by omega);simp (disch:=try exact dD _) only [↓reduceIte,↓rK,rO,Nat.reduceAdd,hi',Ay FV,hI,et,h1',hz',cond_true];rfl
   ·have hz':=eq_true (show (0:Int)<(i:Int) by omega);have e1:(i:Int) - 1=((i - 1:Nat):Int):=by omega
    have hz2:=decide_eq_false hz;by_cases hc:m.trans[i].id<=(m.trans[i - 1]'(by omega)).id
    ·have hc':=eq_true hc;have hd:=decide_eq_false (show ¬(m.trans[i - 1]'(by omega)).id<m.trans[i].id by omega);simp (disch:=try exact dD _) only [↓reduceIte,↓rK,rO,Nat.reduceAdd,hi',Ay FV,hI,et,h1',hz',hz2,e1,hc',hd,cond_false]
    ·have hc':=eq_false hc;have hd:=decide_eq_true (show (m.trans[i - 1]'(by omega)).id<m.trans[i].id by omega);simp (disch:=try exact dD _) only [↓reduceIte,↓rK,rO,Nat.reduceAdd,hi',Ay FV,hI,et,h1',hz',hz2,e1,hc',hd,cond_true];rfl
 obtain ⟨τ,g1,hI,hn⟩:=D6 (P:=t36_0 call k) (I:=λτ=>τ.get 0=some (.blk (V.cellsF (AP.enc m)) 30 0 false)/\0<τ.n) (mk:=λi=>[.ptr 0 0 0,(AA BF).enc m.trans,.int .i64 (m.trans.length:Int),.int .i64 (i:Int)]) (fin:=[.ptr 0 0 0]) (res:=[.bool false]) (id:=0) (n:=m.trans.length)
  (ok:=λi=>if h:i<m.trans.length then m.rightT m.trans[i]&&(decide (i=0)||decide ((m.trans[i - 1]'(by omega)).id<m.trans[i].id)) else true)
  (by
    intro i τ hi hI ho;simp only [dif_pos hi] at ho;obtain ⟨τ',g1,g2⟩:=hb i τ hi hI;exact ⟨τ',by rw [g1,ho];rfl,g2⟩)
  (by
    intro i τ hi hI ho;simp only [dif_pos hi] at ho;obtain ⟨τ',g1,g2⟩:=hb i τ hi hI;exact ⟨τ',by rw [g1,ho];rfl,g2⟩)
  (by
    intro τ hI;refine ⟨τ,?_,hI⟩;have hi':=eq_false (show ¬(m.trans.length:Int)<(m.trans.length:Int) by omega);unfold t36_0;simp (disch:=try exact dD _) only [↓reduceIte,↓rK,rP,hi'])
  m.trans.length 0 k (St.empty.new (.blk (V.cellsF (AP.enc m)) 30 0 false)) (by omega) hk ⟨rfl,by rw [Aa];omega⟩
 rw [show ((0:Nat):Int)=0 from rfl] at g1;have key:DN (λi=>if h:i<m.trans.length then m.rightT m.trans[i]&&(decide (i=0)||decide ((m.trans[i - 1]'(by omega)).id<m.trans[i].id)) else true) m.trans.length 0=(m.trans.all m.rightT&&E7 (m.trans.map (·.id))):=by
  rw [Bool.eq_iff_iff,GS,Bool.and_eq_true,List.all_eq_true,Pq];constructor
  ·intro h;refine ⟨λt ht=>?_,λi hi=>?_⟩
   ·obtain ⟨i,hi,rfl⟩:=List.getElem_of_mem ht;have:=h i (by omega) (by omega);simp only [dif_pos hi,Bool.and_eq_true] at this;exact this.1
   ·have hi2:i+1<m.trans.length:=by simpa using hi
    have:=h (i+1) (by omega) (by omega);simp only [dif_pos hi2,Bool.and_eq_true,Bool.or_eq_true,decide_eq_true_eq,Nat.add_sub_cancel] at this;rcases this.2 with h | h
    ·omega
    ·simpa using h
  ·rintro ⟨h1,h2⟩ i _ hi
   have hi:i<m.trans.length:=by omega
   simp only [dif_pos hi,Bool.and_eq_true,Bool.or_eq_true,decide_eq_true_eq];refine ⟨h1 _ (List.getElem_mem hi),?_⟩;cases i with
   | zero=>exact .inl rfl
   | succ i=>exact .inr (by have:=h2 i (by simpa using hi);simpa using this)
 rw [key] at g1;have h2':=λτ=>h2 m τ hm
 generalize hw:t36 call k [AP.enc m] .empty=w;unfold t36 t36_1 at hw;simp only [Cj] at g1 hI;rw [<-rQ m];simp (disch:=try exact dD _) only [↓reduceIte,↓rK,rO,g1] at hw;cases ha:(m.trans.all m.rightT&&E7 (m.trans.map (·.id))) with
 | false =>
  rw [ha] at hw;simp only [rO,AL,cond_false] at hw;rw [Bool.and_false,Bool.and_false];exact ⟨_,hw.symm⟩
 | true =>
  rw [ha] at hw;simp (disch:=try exact dD _) only [↓reduceIte,↓rK,rO,AL,Nat.reduceAdd,cond_true,hI,h2'] at hw;have d1:decide ((m.trans.length:Int)<=16)=decide (m.trans.length<=16):=decide_eq_decide.2 (by omega);rw [d1] at hw;rw [Bool.and_true];exact ⟨_,hw.symm⟩
def BX (s:BG):Prop:=s.locs.length<1000000/\s.vals.length<1000000
theorem LZ {α β:Type} (p:α×β->Bool) (a:List α) (b:List β) (hl:b.length=a.length) (ok:Nat->Bool) (h: ∀ i (h1:i<a.length) (h2:i<b.length),ok i=p (a[i],b[i])):DN ok a.length 0=(a.zip b).all p:=by
 have e:a.length=(a.zip b).length:=by rw [List.length_zip];omega
 rw [e];apply RA;intro i x hx;obtain ⟨hi,rfl⟩:=List.getElem?_eq_some_iff.1 hx;rw [List.length_zip] at hi;rw [List.getElem_zip];exact h i (by omega) (by omega)
theorem uE {call:SS.Call} {k:Nat} (h1: ∀ (m:AQ) τ,Ae m->call 36 [AP.enc m] τ=some (.bool m.right,τ)) (m:AQ) (s:BG) (hm:Ae m) (hs:BX s) (hk:m.procs.length<k) (hk2:m.vars.length<k) :
 ∃ σ,t12 call k [AP.enc m,Af.enc s] .empty=some (.bool (m.right&&m.fits s),σ):=by
 obtain ⟨s1,s2⟩:=hs;have hl1:=hm.procs;have hl2:=hm.vars
 have h1':=λτ=>h1 m τ hm
 generalize hw:t12 call k [AP.enc m,Af.enc s] .empty=w;unfold t12 at hw;cases hr:m.right with
 | false =>
  rw [hr] at h1';simp (disch:=try exact dD _) only [↓reduceIte,↓rK,rO,AL,Nat.reduceAdd,Nat.reduceEqDiff,h1'] at hw;exact ⟨_,hw.symm⟩
 | true =>
 rw [hr] at h1';unfold AQ.fits;by_cases c1:s.locs.length=m.procs.length
 ·have c1':=eq_true (show (s.locs.length:Int)=(m.procs.length:Int) by omega);by_cases c2:s.vals.length=m.vars.length
  ·have c2':=eq_true (show (s.vals.length:Int)=(m.vars.length:Int) by omega)
   have hb: ∀ (i:Nat) τ (hi:i<m.procs.length),τ.get 1=some (.blk (V.cellsF (Af.enc s)) 35 0 false)/\2<=τ.n/\τ.get 0=some (.blk (V.cellsF (AP.enc m)) 30 0 false) ->
    ∃ τ',t12_0 call k [.ptr 0 0 0,.ptr 1 0 0,(AA BH).enc m.procs,.int .i64 (m.procs.length:Int),.int .i64 (i:Int)] τ=(bif decide (0<=s.locs[i])&&decide (s.locs[i]<m.procs[i].locs.length) then some (.norm,[.ptr 0 0 0,.ptr 1 0 0,(AA BH).enc m.procs,.int .i64 (m.procs.length:Int),.int .i64 ((i+1:Nat):Int)],τ') else some (.ret,[.bool false],τ'))/\τ'.get 1=some (.blk (V.cellsF (Af.enc s)) 35 0 false)/\2<=τ'.n/\τ'.get 0=some (.blk (V.cellsF (AP.enc m)) 30 0 false):=by
    rintro i τ hi ⟨hI,hn,hZ⟩
    have hi':=eq_true (show (i:Int)<(m.procs.length:Int) by omega);refine ⟨(τ.new (.blk [.str [],.nilS] 43 0 false)).put τ.n (.blk [.str m.procs[i].name,(AA AC).enc m.procs[i].locs] 43 0 false),?_,by rw [St.zAg,if_neg (by omega),St.zAe,if_neg (by omega)];exact hI,by rw [A9,Aa];omega,by rw [St.zAg,if_neg (by omega),St.zAe,if_neg (by omega)];exact hZ⟩;unfold t12_0;by_cases d1:s.locs[i]<0
    ·have d1':=eq_true d1;have e:=decide_eq_false (show ¬0<=s.locs[i] by omega);simp (disch:=try exact dD _) only [↓reduceIte,↓rK,rO,hi',Ay EO,hI,d1',e,cond_false]
    ·have d1':=eq_false d1;have e:=decide_eq_true (show 0<=s.locs[i] by omega);by_cases d2:(m.procs[i].locs.length:Int)<=s.locs[i]
     ·have d2':=eq_true d2;have e2:=decide_eq_false (show ¬s.locs[i]<(m.procs[i].locs.length:Int) by omega);simp (disch:=try exact dD _) only [↓reduceIte,↓rK,rO,hi',Ay EO,hI,d1',e,d2',e2,cond_false]
     ·have d2':=eq_false d2;have e2:=decide_eq_true (show s.locs[i]<(m.procs[i].locs.length:Int) by omega);simp (disch:=try exact dD _) only [↓reduceIte,↓rK,rO,hi',Ay EO,hI,d1',e,d2',e2,cond_true];rfl
   obtain ⟨τ,g1,hI,hn,hZ⟩:=D6 (P:=t12_0 call k) (I:=λτ=>τ.get 1=some (.blk (V.cellsF (Af.enc s)) 35 0 false)/\2<=τ.n/\τ.get 0=some (.blk (V.cellsF (AP.enc m)) 30 0 false)) (mk:=λi=>[.ptr 0 0 0,.ptr 1 0 0,(AA BH).enc m.procs,.int .i64 (m.procs.length:Int),.int .i64 (i:Int)]) (fin:=[.ptr 0 0 0,.ptr 1 0 0]) (res:=[.bool false]) (id:=0) (n:=m.procs.length)
    (ok:=λi=>if h:i<m.procs.length then decide (0<=s.locs[i])&&decide (s.locs[i]<m.procs[i].locs.length) else true)
    (by
      intro i τ hi hI ho;simp only [dif_pos hi] at ho;obtain ⟨τ',g1,g2⟩:=hb i τ hi hI;exact ⟨τ',by rw [g1,ho];rfl,g2⟩)
    (by
      intro i τ hi hI ho;simp only [dif_pos hi] at ho;obtain ⟨τ',g1,g2⟩:=hb i τ hi hI;exact ⟨τ',by rw [g1,ho];rfl,g2⟩)
    (by
      rintro τ ⟨hI,hn,hz⟩
      refine ⟨τ,?_,hI,hn,hz⟩;have hi':=eq_false (show ¬(m.procs.length:Int)<(m.procs.length:Int) by omega);unfold t12_0;simp (disch:=try exact dD _) only [↓reduceIte,↓rK,rP,hi'])
    m.procs.length 0 k ((St.empty.new (.blk (V.cellsF (AP.enc m)) 30 0 false)).new (.blk (V.cellsF (Af.enc s)) 35 0 false)) (by omega) hk ⟨by simp (disch:=decide) [St.zAe,Aa,BD],by rw [Aa,Aa,BD];omega,by simp (disch:=decide) [St.zAe,Aa,BD]⟩
   rw [show ((0:Nat):Int)=0 from rfl,LZ (λp:Bi×Int=>decide (0<=p.2)&&decide (p.2<p.1.locs.length)) m.procs s.locs c1 _ (by intro i h1 h2;simp only [dif_pos h1])] at g1
   have hb2: ∀ (i:Nat) τ (hi:i<m.vars.length),τ.get 1=some (.blk (V.cellsF (Af.enc s)) 35 0 false)/\2<=τ.n ->
    ∃ τ',t12_1 call k [.ptr 1 0 0,(AA Az).enc m.vars,.int .i64 (m.vars.length:Int),.int .i64 (i:Int)] τ=(bif decide (m.vars[i].low<=s.vals[i])&&decide (s.vals[i]<=m.vars[i].high) then some (.norm,[.ptr 1 0 0,(AA Az).enc m.vars,.int .i64 (m.vars.length:Int),.int .i64 ((i+1:Nat):Int)],τ') else some (.ret,[.bool false],τ'))/\τ'.get 1=some (.blk (V.cellsF (Af.enc s)) 35 0 false)/\2<=τ'.n:=by
    rintro i τ hi ⟨hI,hn⟩
    have hi':=eq_true (show (i:Int)<(m.vars.length:Int) by omega);refine ⟨(τ.new (.blk [.str [],.int .i64 0,.int .i64 0,.int .i64 0] 62 0 false)).put τ.n (.blk [.str m.vars[i].name,.int .i64 m.vars[i].low,.int .i64 m.vars[i].high,.int .i64 m.vars[i].init] 62 0 false),?_,by rw [St.zAg,if_neg (by omega),St.zAe,if_neg (by omega)];exact hI,by rw [A9,Aa];omega⟩;unfold t12_1;by_cases d1:s.vals[i]<m.vars[i].low
    ·have d1':=eq_true d1;have e:=decide_eq_false (show ¬m.vars[i].low<=s.vals[i] by omega);simp (disch:=try exact dD _) only [↓reduceIte,↓rK,rO,hi',Ay FW,hI,d1',e,cond_false]
    ·have d1':=eq_false d1;have e:=decide_eq_true (show m.vars[i].low<=s.vals[i] by omega);by_cases d2:m.vars[i].high<s.vals[i]
     ·have d2':=eq_true d2;have e2:=decide_eq_false (show ¬s.vals[i]<=m.vars[i].high by omega);simp (disch:=try exact dD _) only [↓reduceIte,↓rK,rO,hi',Ay FW,hI,d1',e,d2',e2,cond_false]
     ·have d2':=eq_false d2;have e2:=decide_eq_true (show s.vals[i]<=m.vars[i].high by omega);simp (disch:=try exact dD _) only [↓reduceIte,↓rK,rO,hi',Ay FW,hI,d1',e,d2',e2,cond_true];rfl
   obtain ⟨τ2,g2,_⟩:=D6 (P:=t12_1 call k) (I:=λτ=>τ.get 1=some (.blk (V.cellsF (Af.enc s)) 35 0 false)/\2<=τ.n) (mk:=λi=>[.ptr 1 0 0,(AA Az).enc m.vars,.int .i64 (m.vars.length:Int),.int .i64 (i:Int)]) (fin:=[]) (res:=[.bool false]) (id:=2) (n:=m.vars.length)
    (ok:=λi=>if h:i<m.vars.length then decide (m.vars[i].low<=s.vals[i])&&decide (s.vals[i]<=m.vars[i].high) else true)
    (by
      intro i τ hi hI ho;simp only [dif_pos hi] at ho;obtain ⟨τ',g1,g2⟩:=hb2 i τ hi hI;exact ⟨τ',by rw [g1,ho];rfl,g2⟩)
    (by
      intro i τ hi hI ho;simp only [dif_pos hi] at ho;obtain ⟨τ',g1,g2⟩:=hb2 i τ hi hI;exact ⟨τ',by rw [g1,ho];rfl,g2⟩)
    (by
      rintro τ ⟨hI,hn⟩
      refine ⟨τ,?_,hI,hn⟩;have hi':=eq_false (show ¬(m.vars.length:Int)<(m.vars.length:Int) by omega);unfold t12_1;simp (disch:=try exact dD _) only [↓reduceIte,↓rK,rP,hi'])
    m.vars.length 0 k τ (by omega) hk2 ⟨hI,hn⟩
   rw [show ((0:Nat):Int)=0 from rfl,LZ (λp:Var×Int=>decide (p.1.low<=p.2)&&decide (p.2<=p.1.high)) m.vars s.vals c2 _ (by intro i h1 h2;simp only [dif_pos h1])] at g2;simp only [Cj,Gv] at g1 hZ;simp (disch:=try exact dD _) only [↓reduceIte,↓rK,rO,Nat.reduceAdd,Nat.reduceEqDiff,h1',c1',c2',g1] at hw;rw [decide_eq_true c1,decide_eq_true c2];cases ha:(m.procs.zip s.locs).all (λp:Bi×Int=>decide (0<=p.2)&&decide (p.2<p.1.locs.length)) with
   | false =>
    rw [ha] at hw;simp only [rO,AL,cond_false] at hw;exact ⟨_,hw.symm⟩
   | true =>
    rw [ha] at hw;unfold t12_3 t12_2 at hw;simp (disch:=try exact dD _) only [↓reduceIte,↓rK,rO,cond_true,hZ,g2] at hw;cases hc:(m.vars.zip s.vals).all (λp:Var×Int=>decide (p.1.low<=p.2)&&decide (p.2<=p.1.high)) with
    | false =>
     rw [hc] at hw;simp only [rO,AL,cond_false] at hw;exact ⟨_,hw.symm⟩
    | true =>
     rw [hc] at hw;simp only [↓rK,rO,AL,cond_true] at hw;exact ⟨_,hw.symm⟩
  ·have c2':=eq_false (show ¬(s.vals.length:Int)=(m.vars.length:Int) by omega);simp (disch:=try exact dD _) only [↓reduceIte,↓rK,rO,AL,Nat.reduceAdd,Nat.reduceEqDiff,h1',c1',c2'] at hw;rw [decide_eq_false c2,Bool.false_and,Bool.and_false];exact ⟨_,hw.symm⟩
 ·have c1':=eq_false (show ¬(s.locs.length:Int)=(m.procs.length:Int) by omega);simp (disch:=try exact dD _) only [↓reduceIte,↓rK,rO,AL,Nat.reduceAdd,Nat.reduceEqDiff,h1',c1'] at hw;rw [decide_eq_false c1];exact ⟨_,hw.symm⟩
def Md (m:AQ) (s:BG) (q:B):B:=match m.procs.findIdx? (λp=>decide (p.name=q)) with
 | some i=>(match m.procs[i]?,s.locs[i]? with | some p,some n=>(p.locs[n.toNat]?).getD [] | _,_=>[])
 | none=>[]
def Jk (m:AQ) (s:BG) (q:B):B:=if m.right&&m.fits s then Md m s q else []
theorem uC {call:SS.Call} {k:Nat} (h1: ∀ (m:AQ) (s:BG) τ,Ae m->BX s->call 12 [AP.enc m,Af.enc s] τ=some (.bool (m.right&&m.fits s),τ)) (m:AQ) (s:BG) (q:B) (hm:Ae m) (hs:BX s) (hk:m.procs.length<k) :
 ∃ σ,t13 call k [AP.enc m,Af.enc s,.str q] .empty=some (.str (Jk m s q),σ):=by
 have hl1:=hm.procs;have h1':=λτ=>h1 m s τ hm hs
 generalize hw:t13 call k [AP.enc m,Af.enc s,.str q] .empty=w;unfold t13 at hw;unfold Jk;cases hr:(m.right&&m.fits s) with
 | false =>
  rw [hr] at h1';simp (disch:=try exact dD _) only [↓reduceIte,↓rK,rO,AL,Nat.reduceAdd,Nat.reduceEqDiff,h1'] at hw;exact ⟨_,hw.symm⟩
 | true =>
  rw [hr] at h1';rw [Bool.and_eq_true] at hr;obtain ⟨f1,f2,f3,f4⟩:=(Em m s).1 hr.2
  have hb: ∀ (i:Nat) τ (hi:i<m.procs.length),τ.get 1=some (.blk (V.cellsF (Af.enc s)) 35 0 false)/\2<=τ.n ->
   ∃ τ',t13_0 call k [.str q,.ptr 1 0 0,(AA BH).enc m.procs,.int .i64 (m.procs.length:Int),.int .i64 (i:Int)] τ=(if decide (m.procs[i].name=q)=true then some (.ret,[.str ((m.procs[i].locs[(s.locs[i]'(by omega)).toNat]?).getD [])],τ') else some (.norm,[.str q,.ptr 1 0 0,(AA BH).enc m.procs,.int .i64 (m.procs.length:Int),.int .i64 ((i+1:Nat):Int)],τ'))/\τ'.get 1=some (.blk (V.cellsF (Af.enc s)) 35 0 false)/\2<=τ'.n:=by
   rintro i τ hi ⟨hI,hn⟩
   have hi':=eq_true (show (i:Int)<(m.procs.length:Int) by omega);have hi2:i<s.locs.length:=by omega
   obtain ⟨u0,u1⟩:=f3 i hi hi2;obtain ⟨n,hn2⟩: ∃ n:Nat,s.locs[i]=(n:Int):=⟨s.locs[i].toNat,by omega⟩
   rw [hn2] at u0 u1;have hld:=λ(τ:St) (K:V->Option (AEx×List V×St))=>J6 (σ:=τ) (l:=s.locs) (n:=i) hi2 K
   rw [hn2] at hld;have hlt:n<m.procs[i].locs.length:=by omega
   refine ⟨(τ.new (.blk [.str [],.nilS] 43 0 false)).put τ.n (.blk [.str m.procs[i].name,(AA AC).enc m.procs[i].locs] 43 0 false),?_,by rw [St.zAg,if_neg (by omega),St.zAe,if_neg (by omega)];exact hI,by rw [A9,Aa];omega⟩;unfold t13_0;rw [hn2,Int.toNat_natCast,List.getElem?_eq_getElem hlt];by_cases d1:m.procs[i].name=q
   ·have d1':=eq_true d1;rw [decide_eq_true d1,if_pos rfl];simp (disch:=try exact dD _) only [↓hld,↓reduceIte,↓rK,rO,hi',Ay EO,hI,d1'];rfl
   ·have d1':=eq_false d1;rw [decide_eq_false d1,if_neg (by decide)];simp (disch:=try exact dD _) only [↓reduceIte,↓rK,rO,hi',Ay EO,d1'];rfl
  have hl2:=Hd (P:=t13_0 call k) (I:=λτ=>τ.get 1=some (.blk (V.cellsF (Af.enc s)) 35 0 false)/\2<=τ.n) (mk:=λi=>[.str q,.ptr 1 0 0,(AA BH).enc m.procs,.int .i64 (m.procs.length:Int),.int .i64 (i:Int)]) (res:=λi=>[.str (match m.procs[i]?,s.locs[i]? with | some p,some n=>(p.locs[n.toNat]?).getD [] | _,_=>[])]) (fin:=[]) (id:=0) (n:=m.procs.length)
   (p:=λi=>if h:i<m.procs.length then decide (m.procs[i].name=q) else false)
   (by
     rintro i τ hi hI hp
     simp only [dif_pos hi] at hp;obtain ⟨τ',g,g2⟩:=hb i τ hi hI;rw [hp] at g;exact ⟨τ',g,g2⟩)
   (by
     rintro i τ hi hI hp
     simp only [dif_pos hi] at hp;obtain ⟨τ',g,g2⟩:=hb i τ hi hI;rw [hp] at g;rw [List.getElem?_eq_getElem hi,List.getElem?_eq_getElem (show i<s.locs.length by omega)];exact ⟨τ',g,g2⟩)
   (by
     rintro τ hI
     refine ⟨τ,?_,hI⟩;have hi':=eq_false (show ¬(m.procs.length:Int)<(m.procs.length:Int) by omega);unfold t13_0;simp (disch:=try exact dD _) only [↓reduceIte,↓rK,rO,hi'])
   m.procs.length 0 k ((St.empty.new (.blk (V.cellsF (AP.enc m)) 30 0 false)).new (.blk (V.cellsF (Af.enc s)) 35 0 false)) (by omega) hk ⟨by simp (disch:=decide) [St.zAe,Aa,BD],by rw [Aa,Aa,BD];omega⟩
  obtain ⟨σ,h3,_⟩:=hl2;rw [show ((0:Nat):Int)=0 from rfl,G7 (λx=>decide (x.name=q)) _ _ (by intro i hi;simp only [dif_pos hi])] at h3;simp only [Cj,Gv] at h3;unfold t13_1 at hw;simp (disch:=try exact dD _) only [↓reduceIte,↓rK,rP,Nat.reduceAdd,Nat.reduceEqDiff,h1',h3] at hw;unfold Md;cases hf:m.procs.findIdx? (λx=>decide (x.name=q)) with
  | none =>
   rw [hf] at hw;simp only [↓rK,rP,AL] at hw;exact ⟨_,hw.symm⟩
  | some j =>
   rw [hf] at hw;simp only [↓rK,rP,AL] at hw;exact ⟨_,hw.symm⟩
def Bb (m:AQ) (s:BG):List B:=(m.procs.zip s.locs).map λp=>(p.1.locs[p.2.toNat]?).getD []
def Bu (m:AQ) (s:BG):B:=if m.right&&m.fits s then C9 [32] (Bb m s++s.vals.map BK) else []
theorem FN (m:AQ) (s:BG) (h:s.locs.length=m.procs.length):(Bb m s).length=m.procs.length:=by
 unfold Bb;rw [List.length_map,List.length_zip];omega
theorem MK (m:AQ) (s:BG) (i:Nat) (h1:i<m.procs.length) (h2:i<s.locs.length) (h3:i<(Bb m s).length):(Bb m s)[i]=(m.procs[i].locs[(s.locs[i]).toNat]?).getD []:=by
 have h:(Bb m s)[i]? = some ((m.procs[i].locs[(s.locs[i]).toNat]?).getD []):=by
  unfold Bb;rw [List.getElem?_map,List.getElem?_eq_getElem (by rw [List.length_zip];omega),List.getElem_zip];rfl
 rw [List.getElem?_eq_getElem h3] at h;exact Option.some.inj h
theorem bR {τ:St} {v u:V} {s:B} (h:Bd env τ [v]=some [u]):Bd env τ [v,.str s]=some [u,.str s]:=by
 have e:Bd env τ [v,.str s]=(match (bif Nat.beq v.kind 0 then some v else frz env τ D4 v),Bd env τ [.str s] with | some x,some xs=>some (x :: xs) | _,_=>none):=rfl;have e2:Bd env τ [v]=(match (bif Nat.beq v.kind 0 then some v else frz env τ D4 v),Bd env τ [] with | some x,some xs=>some (x :: xs) | _,_=>none):=rfl;rw [e];rw [e2] at h;cases hx:(bif Nat.beq v.kind 0 then some v else frz env τ D4 v) with
 | none=>rw [hx] at h;cases h
 | some x =>
  rw [hx] at h;have h:some [x]=some [u]:=h;cases h;rfl
set_option maxHeartbeats 8000000 in
theorem uD {call:SS.Call} {k:Nat} (h1: ∀ (m:AQ) (s:BG) τ,Ae m->BX s->call 12 [AP.enc m,Af.enc s] τ=some (.bool (m.right&&m.fits s),τ)) (h2: ∀ (n:Int) τ,-999<=n->n<=999->call 34 [.int .i64 n] τ=some (.str (BK n),τ))
 (h3: ∀ (v:V) (l:List B) τ,Bd env τ [v]=some [(AA AC).enc l]->l.length<=7->(∀ s∈l,s.length<=8)->call 35 [v,.str [32]] τ=some (.str (C9 [32] l),τ)) (m:AQ) (s:BG) (hm:Ae m) (hs:BX s) (hk:m.procs.length<k) (hk2:s.vals.length<k) :
 ∃ σ,t11 call k [AP.enc m,Af.enc s] .empty=some (.str (Bu m s),σ):=by
 have hl1:=hm.procs;have hl2:=hs.2
 have h1':=λτ=>h1 m s τ hm hs
 generalize hw:t11 call k [AP.enc m,Af.enc s] .empty=w;unfold t11 at hw;unfold Bu;cases hr:(m.right&&m.fits s) with
 | false =>
  rw [hr] at h1';simp (disch:=try exact dD _) only [↓reduceIte,↓rK,rO,AL,Nat.reduceAdd,Nat.reduceEqDiff,h1'] at hw;exact ⟨_,hw.symm⟩
 | true =>
  rw [hr] at h1';rw [Bool.and_eq_true] at hr;obtain ⟨f1,f2,f3,f4⟩:=(Em m s).1 hr.2;have hlp:=FN m s f1;have hrt:=hr.1;unfold AQ.right at hrt;simp only [Bool.and_eq_true,decide_eq_true_eq,List.all_eq_true] at hrt;obtain ⟨r1,r2,r3,r4,r5,_⟩:=hrt
  obtain ⟨e,vs',σ,q1,q2,q3⟩:=Bl (P:=t11_0 call k) (Inv:=λr v τ=>∃ (i:Nat) (x:V) (b:Nat),r+i=m.procs.length/\v=[.ptr 1 0 0,x,(AA BH).enc m.procs,.int .i64 (m.procs.length:Int),.int .i64 (i:Int)]/\τ.get 1=some (.blk (V.cellsF (Af.enc s)) 35 0 false)/\2<=τ.n/\Lst τ 9 1 x i (rows AC ((Bb m s).take i)) b/\2<=b)
   (Q:=λy=>y.1=.exit 0/\∃ x b,y.2.1=[.ptr 1 0 0,x]/\y.2.2.get 1=some (.blk (V.cellsF (Af.enc s)) 35 0 false)/\2<=y.2.2.n/\Lst y.2.2 9 1 x m.procs.length (rows AC (Bb m s)) b/\2<=b)
   (by
     rintro r v τ ⟨i,x,b,hri,rfl,hI,hn,hL,hb2⟩
     by_cases hi:i<m.procs.length
     ·have hi':=eq_true (show (i:Int)<(m.procs.length:Int) by omega);have hi2:i<s.locs.length:=by omega
      obtain ⟨u0,u1⟩:=f3 i hi hi2;obtain ⟨n,hn2⟩: ∃ n:Nat,s.locs[i]=(n:Int):=⟨s.locs[i].toNat,by omega⟩
      rw [hn2] at u0 u1;have hld:=λ(τ:St) (K:V->Option (AEx×List V×St))=>J6 (σ:=τ) (l:=s.locs) (n:=i) hi2 K
      rw [hn2] at hld;have hlt:n<m.procs[i].locs.length:=by omega
      have hpart:(Bb m s)[i]'(by omega)=m.procs[i].locs[n]:=by
       rw [MK m s i hi hi2,hn2,Int.toNat_natCast,List.getElem?_eq_getElem hlt];rfl
      have hrow:rows AC ((Bb m s).take (i+1))=rows AC ((Bb m s).take i)++[.str m.procs[i].locs[n]]:=by
       rw [List.take_succ_eq_append_getElem (by omega),hpart];exact DI AC _ _
      obtain ⟨b1,hL1,hb1⟩:=EI 5 hL;have far: ∀ c,c<τ.n->((τ.new (.blk [.str [],.nilS] 43 0 false)).put τ.n (.blk [.str m.procs[i].name,(AA AC).enc m.procs[i].locs] 43 0 false)).get c=τ.get c:=λc hc=>by rw [St.zAg,if_neg (by omega),St.zAe,if_neg (by omega)]
      have hL2:=hL1.of (σ':=(τ.new (.blk [.str [],.nilS] 43 0 false)).put τ.n (.blk [.str m.procs[i].name,(AA AC).enc m.procs[i].locs] 43 0 false)) (λhc=>far _ hc) (by rw [A9,Aa];omega);obtain ⟨x',b',σ',ha,hL',hn',hfr,hb',hbn'⟩:=DQ (new:=[.str m.procs[i].locs[n]]) hL2 (by omega) rfl (by decide);rw [A9,Aa] at hn' hfr hb';have g1:σ'.get 1=some (.blk (V.cellsF (Af.enc s)) 35 0 false):=by
       rw [hfr 1 (by omega) (by omega),far 1 (by omega)];exact hI
      generalize hw:t11_0 call k [.ptr 1 0 0,x,(AA BH).enc m.procs,.int .i64 (m.procs.length:Int),.int .i64 (i:Int)] τ=w;unfold t11_0 at hw;simp (disch:=try exact dD _) only [↓hld,↓reduceIte,↓rK,rO,hi',Ay EO,hI,ha] at hw;exact .inl ⟨r - 1,_,σ',by omega,hw.symm,i+1,x',b',by omega,rfl,g1,by omega,by rw [hrow];exact hL',by omega⟩
     ·have he:i=m.procs.length:=by omega
      subst he;rw [<-hlp,List.take_length] at hL;rw [hlp] at hL;have hi':=eq_false (show ¬(m.procs.length:Int)<(m.procs.length:Int) by omega);refine .inr ⟨.exit 0,_,τ,?_,(by intro h;cases h),rfl,x,b,rfl,hI,hn,hL,hb2⟩;unfold t11_0;simp (disch:=try exact dD _) only [↓reduceIte,↓rK,rP,hi'])
   m.procs.length k [.ptr 1 0 0,.nilS,(AA BH).enc m.procs,.int .i64 (m.procs.length:Int),.int .i64 0] ((St.empty.new (.blk (V.cellsF (AP.enc m)) 30 0 false)).new (.blk (V.cellsF (Af.enc s)) 35 0 false)) hk
   ⟨0,.nilS,2,by omega,rfl,by simp (disch:=decide) [St.zAe,Aa,BD],by rw [Aa,Aa,BD];omega,C5 _ _ _ _,by omega⟩
  obtain ⟨q3,x,b,q4,hI,hn,hL,hb2⟩:=q3;simp only at q3 q4 hI hn hL;subst q3 q4
  obtain ⟨e,vs',σ2,p1,p2,p3⟩:=Bl (P:=t11_1 call k) (Inv:=λr v τ=>∃ (i:Nat) (x:V) (b:Nat),r+i=s.vals.length/\v=[x,(AA AJ).enc s.vals,.int .i64 (s.vals.length:Int),.int .i64 (i:Int)]/\Lst τ 9 1 x (m.procs.length+i) (rows AC (Bb m s++(s.vals.take i).map BK)) b)
   (Q:=λy=>y.1=.exit 2/\∃ x b,y.2.1=[x]/\Lst y.2.2 9 1 x (m.procs.length+s.vals.length) (rows AC (Bb m s++s.vals.map BK)) b)
   (by
     rintro r v τ ⟨i,x,b,hri,rfl,hL⟩
     by_cases hi:i<s.vals.length
     ·have hi':=eq_true (show (i:Int)<(s.vals.length:Int) by omega);obtain ⟨u0,u1⟩:=f4 i (by omega) hi;have hv:=r1 _ (List.getElem_mem (show i<m.vars.length by omega));unfold Var.right at hv;simp only [Bool.and_eq_true,decide_eq_true_eq] at hv;have h2':=h2 s.vals[i] τ (by omega) (by omega);have hrow:rows AC (Bb m s++(s.vals.take (i+1)).map BK)=rows AC (Bb m s++(s.vals.take i).map BK)++[.str (BK s.vals[i])]:=by
       rw [List.take_succ_eq_append_getElem hi,List.map_append,<-List.append_assoc];exact DI AC _ _
      obtain ⟨x',b',σ',ha,hL',_⟩:=DQ (new:=[.str (BK s.vals[i])]) hL (by omega) rfl (by decide);generalize hw:t11_1 call k [x,(AA AJ).enc s.vals,.int .i64 (s.vals.length:Int),.int .i64 (i:Int)] τ=w;unfold t11_1 at hw;simp (disch:=try exact dD _) only [↓reduceIte,↓rK,rO,hi',h2',↓BA,BA,ha] at hw;exact .inl ⟨r - 1,_,σ',by omega,hw.symm,i+1,x',b',by omega,rfl,by rw [hrow];exact hL'⟩
     ·have he:i=s.vals.length:=by omega
      subst he;rw [List.take_length] at hL;have hi':=eq_false (show ¬(s.vals.length:Int)<(s.vals.length:Int) by omega);refine .inr ⟨.exit 2,_,τ,?_,(by intro h;cases h),rfl,x,b,rfl,hL⟩;unfold t11_1;simp (disch:=try exact dD _) only [↓reduceIte,↓rK,rP,hi'])
   s.vals.length k [x,(AA AJ).enc s.vals,.int .i64 (s.vals.length:Int),.int .i64 0] σ hk2 ⟨0,x,b,by omega,rfl,by simpa using hL⟩
  obtain ⟨p3,x2,b2,p4,hL2⟩:=p3;simp only at p3 p4 hL2;subst p3 p4;have hlen2:(Bb m s++s.vals.map BK).length=m.procs.length+s.vals.length:=by rw [List.length_append,hlp,List.length_map]
  have hj:=h3 x2 (Bb m s++s.vals.map BK) σ2 (Ju (by rw [hlen2];exact hL2)) (by rw [hlen2];omega) (by
   intro t ht;rcases List.mem_append.1 ht with ht | ht
   ·obtain ⟨i,hi,rfl⟩:=List.getElem_of_mem ht;have hi1:i<m.procs.length:=by omega
    have hi2:i<s.locs.length:=by omega
    obtain ⟨u0,u1⟩:=f3 i hi1 hi2;rw [MK m s i hi1 hi2];have hlt:(s.locs[i]).toNat<m.procs[i].locs.length:=by omega
    rw [List.getElem?_eq_getElem hlt,Option.getD_some];have hp:=r2 _ (List.getElem_mem hi1);unfold Bi.right at hp;simp only [Bool.and_eq_true,decide_eq_true_eq,List.all_eq_true] at hp;exact Ii (hp.2.2.2.2 _ (List.getElem_mem hlt))
   ·obtain ⟨n,hn,rfl⟩:=List.mem_map.1 ht;obtain ⟨i,hi,rfl⟩:=List.getElem_of_mem hn;obtain ⟨u0,u1⟩:=f4 i (by omega) hi;have hv:=r1 _ (List.getElem_mem (show i<m.vars.length by omega));unfold Var.right at hv;simp only [Bool.and_eq_true,decide_eq_true_eq] at hv;have:=IW s.vals[i] (by omega) (by omega);omega)
  simp only [Cj,Gv] at q1 hI;unfold t11_3 t11_2 at hw;simp (disch:=try exact dD _) only [↓reduceIte,↓rK,rP,AL,Nat.reduceAdd,Nat.reduceEqDiff,h1',q1,hI,p1,hj] at hw;exact ⟨_,hw.symm⟩
theorem YT {call:SS.Call} {k:Nat} (h: ∀ (s:B) (g:Bool) τ,s.length<1000000->call 37 [.str s,.bool g] τ=some (.tup [.int .i64 (amount s g).1,.bool (amount s g).2],τ)) (s:B) (hs:s.length<1000000) (τ:St):t14 call k [.str s] τ=some (.tup [.int .i64 (amount s true).1,.bool (amount s true).2],τ):=by
 unfold t14;simp (disch:=try exact dD _) only [↓rK,rP,AL,h]
theorem Gg {m:AQ} (h:m.right=true):(∀ v∈m.vars,isWord v.name=true/\-999<=v.low/\v.low<=v.init/\v.init<=v.high/\v.high<=999)/\(∀ p∈m.procs,isWord p.name=true/\1<=p.locs.length/\p.locs.length<=6/\∀ s∈p.locs,isWord s=true)/\m.vars.length<=4/\1<=m.procs.length/\m.procs.length<=3/\twice (m.procs.map (·.name))=false:=by
 unfold AQ.right at h;simp only [Bool.and_eq_true,decide_eq_true_eq,List.all_eq_true,Bool.not_eq_true'] at h;obtain ⟨r1,r2,r3,r4,r5,r6,r7,r8,_⟩:=h;refine ⟨λv hv=>?_,λp hp=>?_,r3,r4,r5,r8⟩
 ·have:=r1 v hv;unfold Var.right at this;simp only [Bool.and_eq_true,decide_eq_true_eq] at this;exact ⟨this.1,this.2.2.2.1,this.2.1,this.2.2.1,this.2.2.2.2⟩
 ·have:=r2 p hp;unfold Bi.right at this;simp only [Bool.and_eq_true,decide_eq_true_eq,List.all_eq_true] at this;exact ⟨this.1,this.2.1,this.2.2.1,this.2.2.2.2⟩
theorem Jg {m:AQ} {s:BG} (hr:m.right=true) (hf:m.fits s=true) (i:Nat) (h1:i<m.procs.length) (h2:i<s.locs.length): ∃ n:Nat,s.locs[i]=(n:Int)/\∃ h:n<m.procs[i].locs.length,(Bb m s)[i]? = some (m.procs[i].locs[n])/\isWord m.procs[i].locs[n]=true:=by
 obtain ⟨f1,f2,f3,f4⟩:=(Em m s).1 hf;obtain ⟨u0,u1⟩:=f3 i h1 h2;obtain ⟨n,hn⟩: ∃ n:Nat,s.locs[i]=(n:Int):=⟨s.locs[i].toNat,by omega⟩
 have hlt:n<m.procs[i].locs.length:=by omega
 refine ⟨n,hn,hlt,?_,((Gg hr).2.1 _ (List.getElem_mem h1)).2.2.2 _ (List.getElem_mem hlt)⟩;have hl:i<(Bb m s).length:=by rw [FN m s f1];exact h1
 rw [List.getElem?_eq_getElem hl,MK m s i h1 h2,hn,Int.toNat_natCast,List.getElem?_eq_getElem hlt];rfl
theorem Ur {m:AQ} {s:BG} (hr:m.right=true) (hf:m.fits s=true):cut 32 (Bu m s)=Bb m s++s.vals.map BK:=by
 obtain ⟨f1,f2,f3,f4⟩:=(Em m s).1 hf;obtain ⟨r1,r2,r3,r4,r5,_⟩:=Gg hr;unfold Bu;rw [hr,hf];refine R9 32 _ ?_ ?_
 ·intro h;have:=congrArg List.length h;rw [List.length_append,FN m s f1,List.length_map,List.length_nil] at this;omega
 ·intro a ha;rcases List.mem_append.1 ha with ha | ha
  ·obtain ⟨i,hi,rfl⟩:=List.getElem_of_mem ha;have hi1:i<m.procs.length:=by rw [FN m s f1] at hi;exact hi
   obtain ⟨n,hn,hlt,e,hw⟩:=Jg hr hf i hi1 (by omega);rw [List.getElem?_eq_getElem hi] at e;rw [Option.some.inj e];exact kP hw
  ·obtain ⟨n,hn,rfl⟩:=List.mem_map.1 ha;obtain ⟨i,hi,rfl⟩:=List.getElem_of_mem hn;obtain ⟨u0,u1⟩:=f4 i (by omega) hi;obtain ⟨_,v1,v2,v3,v4⟩:=r1 _ (List.getElem_mem (show i<m.vars.length by omega));exact Zp _ (by omega) (by omega)
theorem bG {l:List Bi} (h:twice (l.map (·.name))=false) (i:Nat) (hi:i<l.length):l.findIdx? (λp=>decide (p.name=l[i].name))=some i:=by
 rw [List.findIdx?_eq_some_iff_getElem];refine ⟨hi,by simp,λj hj=>?_⟩;intro e;have e:=of_decide_eq_true e;have:=(LA _).1 h i (by simpa using hi);apply this;rw [List.getElem_map,<-e];have hj2:j<((l.map (·.name)).take i).length:=by simp;omega
 have:((l.map (·.name)).take i)[j]=l[j].name:=by simp
 rw [<-this];exact List.getElem_mem hj2
theorem pT {m:AQ} {s:BG} (hr:m.right=true) (hf:m.fits s=true) (i:Nat) (h1:i<m.procs.length) (h2:i<s.locs.length) {q:B} (hq:(Bb m s)[i]? = some q):Jk m s m.procs[i].name=q:=by
 obtain ⟨f1,f2,f3,f4⟩:=(Em m s).1 hf;unfold Jk;rw [hr,hf];show Md m s m.procs[i].name=q;unfold Md;rw [bG (Gg hr).2.2.2.2.2 i h1];show (match m.procs[i]?,s.locs[i]? with | some p,some n=>(p.locs[n.toNat]?).getD [] | _,_=>[])=q;rw [List.getElem?_eq_getElem h1,List.getElem?_eq_getElem h2];have hl:i<(Bb m s).length:=by rw [FN m s f1];exact h1
 rw [List.getElem?_eq_getElem hl,MK m s i h1 h2] at hq;exact Option.some.inj hq
theorem kT (l:List B) (c:Nat) (h: ∀ a∈l,a.length<=c):(C9 [32] l).length<=l.length*(c+1):=by
 induction l with
 | nil=>simp [C9]
 | cons a r ih =>
  have h1:=h a (by simp);have h2:=ih λx hx=>h x (by simp [hx])
  cases r with
  | nil=>show a.length<=_;simp;omega
  | cons b r =>
   show (a++[32]++C9 [32] (b :: r)).length<=_;have e1:(a :: b :: r).length*(c+1)=(b :: r).length*(c+1)+(c+1):=by rw [List.length_cons (a:=a),Nat.add_mul,Nat.one_mul]
   have e2:([32]:B).length=1:=rfl;rw [List.length_append,List.length_append,e1,e2];omega
end Go.Proofs.YtglndmmlghpdpaaGreatDoor
namespace SS
open Go Go.RowKit
theorem uI {P:Program} {ρ:Ren} {M:Mem} {σ:St} {w w':World} (h:SR P ρ M σ w) (hb:Below w.heap.size w w'):A8 P ρ M σ w ρ M σ w':=by
 have old: ∀ x o,w.heap[x]? = some o->w'.heap[x]? = some o:=λx o ho=>by
  rw [hb.block x (Array.getElem?_eq_some_iff.1 ho).1];exact ho
 refine { A8.refl h with sr:=?_,frame:=λx hx _=>hb.block x hx,size:=hb.size,os:=hb.os,tape:=hb.tape,output:=hb.output,held:=?_ }
 ·refine ⟨λb e he=>?_,h.bd,h.inj,λx o hx=>old x o (h.mem x o hx),h.disj⟩;have hf:=h.fits b e he;unfold Ff at hf ⊢
  split
  ·rename_i cs ty ver fz hg;rw [hg] at hf;obtain ⟨h1,h2,h3,cs',fr,h4,h5⟩:=hf;exact ⟨h1,h2,h3,cs',fr,old _ _ h4,h5⟩
  ·rename_i es clock hg;rw [hg] at hf;obtain ⟨h1,es',h2,h3⟩:=hf;exact ⟨h1,es',old _ _ h2,h3⟩
  ·rename_i hg;rw [hg] at hf;exact hf
 ·intro b e he _;refine ⟨he,?_⟩;have hf:=h.fits b e he;have: ∃ o,w.heap[e.x]? = some o:=by
   unfold Ff at hf;split at hf
   ·obtain ⟨_,_,_,cs',fr,h4,_⟩:=hf;exact ⟨_,h4⟩
   ·obtain ⟨_,es',h2,_⟩:=hf;exact ⟨_,h2⟩
   ·exact hf.elim
  obtain ⟨o,ho⟩:=this;rw [ho,old _ _ ho]
theorem YQ {P:Program} {ρ:Ren} {M:Mem} {σ:St} {w:World} (h:SR P ρ M σ w) {x:Nat} {o:Obj} (hx:Fm ρ M w x=some o):w.heap[x]? = some o:=by
 unfold Fm at hx;split at hx
 ·rename_i o' h1;cases hx;exact h.mem x _ h1
 ·split at hx
  ·exact hx
  ·cases hx
theorem MI {E:Env} {f:FuncId} {g:Ac} {fn:Func} {c:Code} (hf:E.P.funcs[f]? = some fn) (hb:fn.body=some c) (hn:(fn.name== "runtime.NumGoroutine")=false)
 (h: ∀ ws u,g ws=some u->u.scal=true/\∀ (w:World) (vs':List Value),GOk E (C6 w)->VRL Cg (C6 w) ws vs'->Calls E.P f vs'.toArray w λe w'=>∃ v',e=.returned v'/\VR Cg (C6 w) u v'/\Below w.heap.size w w'):Ag E f g:=by
 intro ws u hg ρ M w vs vs' σ hws _ hsr hgo hv;obtain ⟨hs,hc⟩:=h ws u hg;have hv2:VRL Cg (C6 w) ws vs':=(O3 hsr hws hv).mono ⟨λ_ _ h=>(by cases h),λx o ho=>YQ hsr ho⟩;have hg2:GOk E (C6 w):=hgo.mono λx o ho=>hsr.mem x o ho
 have hn:fn.name≠ "runtime.NumGoroutine" := by simpa using hn
 refine .inr ⟨by simp [callFunc,hf,hn,hb],(hc w vs' hg2 hv2).mono λe w' he=>?_⟩;obtain ⟨v',rfl,h1,h2⟩:=he;exact ⟨ρ,M,uI hsr h2,Mr h1 hs⟩
end SS
namespace SS
open Go
def QS {H:Type} (zs:List (List UInt8)):DataW H:=.agg (zs.map λz=>.lit (.string z))
def Nk (w:World) (g:Nat) (zs:List (List UInt8)):Prop :=
 ∃ cs t fr,w.heap[g]? = some (.cells cs t fr)/\cs.toList=zs.map λz=>Value.string ⟨z.toArray⟩
theorem ZS {H:Type} {enc:TypeId×Value->H} {P:Program} {w:World} {base:Nat} {sp:Nat->Bool} {held:Bool} {fuel:Nat} {t e:TypeId} {n:Nat} {cs:List Value} {zs:List (List UInt8)} {p:List MemPlace}
 (ht:P.underlying t=some (.array n e)) (he:P.underlying e=some .string) (hce:P.cellsOf e=1) (hct:P.cellsOf t=n)
 (h:DataW.trod enc P w base sp held fuel t cs=some (QS zs,p)):cs=zs.map λz=>Value.string ⟨z.toArray⟩:=by
 cases fuel with
 | zero=>simp [DataW.trod] at h
 | succ fuel =>
  simp only [DataW.trod,ht,hce,hct,Nat.mul_one] at h;split at h
  ·rename_i hl;obtain ⟨xs,hm,hx⟩:=Option.map_eq_some_iff.1 h;have hxs:xs.map (·.1)=zs.map λz=>(DataW.lit (.string z):DataW H):=by
    have:=congrArg Prod.fst hx;simpa [QS] using this
   have hxl:xs.length=n:=by simpa using Lib.mapM_length hm
   have hzl:zs.length=n:=by
    have:=congrArg List.length hxs;simp at this;omega
   apply List.ext_getElem?;intro i;by_cases hi:i<n
   ·obtain ⟨b,hb,hf⟩:=Lib.mapM_at hm i i (by simp [hi]);obtain ⟨z,hc,rfl,_⟩:=DataW.trod_string he hf;have h1:cs[i]? = some (.string z):=by
     have:=congrArg (·[0]?) hc;simpa [List.getElem?_take,List.getElem?_drop] using this
    have h2:(xs.map (·.1))[i]? = some (DataW.lit (.string z.data.toList):DataW H):=by simp [hb]
    rw [hxs] at h2;simp only [List.getElem?_map,Option.map_eq_some_iff,DataW.lit.injEq,Lit.string.injEq] at h2;obtain ⟨z',hz',hz2⟩:=h2;simp [h1,hz',hz2]
   ·rw [List.getElem?_eq_none (by omega),List.getElem?_eq_none (by simp;omega)]
  ·cases h
theorem QO {P:Program} {w:World} {name:String} {zs:List (List UInt8)} {g:Nat} {t e:TypeId} {n:Nat} {d:DataW Unit}
 (hg:P.globalNamed name=some g) (hty:(P.globals[g]?).map (·.type)=some t) (ht:P.underlying t=some (.array n e)) (he:P.underlying e=some .string) (hce:P.cellsOf e=1) (hct:P.cellsOf t=n)
 (hd:d=QS zs) (h:Lib.VarReads P w name d):Nk w g zs:=by
 subst hd;obtain ⟨g',t',cs,fuel,p,hg',ht',hvar,hd⟩:=h;obtain rfl:=Option.some.inj (hg.symm.trans hg');obtain rfl:=Option.some.inj (hty.symm.trans ht');have hcs:=ZS ht he hce hct hd;unfold World.var? at hvar;rw [hg] at hvar;simp only [Option.bind_some] at hvar;split at hvar
 ·rename_i cs' t' fr h1;cases hvar;exact ⟨_,_,_,h1,hcs⟩
 ·cases hvar
theorem WQ {ρ:Ren} {M:Mem}: ∀ zs:List (List UInt8),VRL ρ M (zs.map V.str) (zs.map λz=>Value.string ⟨z.toArray⟩)
 | []=>.nil
 | z :: r=>.cons _ _ _ _ (.str z) (WQ r)
theorem cK {E:Env} {w:World} (hG: ∀ g cs,E.G g=some cs->(∃ kd zs,cs=zs.map (V.int kd)/\Nl w g kd zs)\/(cs=[.opq]/\Ng w g)\/(∃ zs,cs=zs.map V.str/\Nk w g zs)) (hI: ∀ f g,E.extn f=some (.indexStr g)->∃ cs' t fr m,w.heap[g]? = some (.cells cs' t fr)/\cs'[0]? = some (.int .i64 m)):GOk E (C6 w):=by
 refine ⟨λg cs hg=>?_,hI⟩;rcases hG g cs hg with ⟨kd,zs,rfl,cs',t,fr,h1,h2⟩ | ⟨rfl,cs',t,fr,v',h1,h2,h3⟩ | ⟨zs,rfl,cs',t,fr,h1,h2⟩
 ·exact ⟨cs',t,fr,h1,λρ=>by rw [h2];exact WP kd zs⟩
 ·exact ⟨cs',t,fr,h1,λρ=>by rw [h2];exact .cons _ _ _ _ (.opq _ h3) .nil⟩
 ·exact ⟨cs',t,fr,h1,λρ=>by rw [h2];exact WQ zs⟩
section
variable {α β γ δ:Type}
open Classical in
noncomputable def only {α γ:Type} (P:α->Prop) (g:α->γ) (x:α):Option γ:=if P x then some (g x) else none
theorem Km {P:α->Prop} {g:α->γ} {x:α} (h:P x):only P g x=some (g x):=if_pos h
theorem Ir {P:α->Prop} {g:α->γ} {x:α} {y:γ} (h:only P g x=some y):P x/\y=g x:=by
 unfold only at h;split at h
 ·rename_i hp;cases h;exact ⟨hp,rfl⟩
 ·cases h
noncomputable def BS (a:Ty α) (c:Ty γ) (P:α->Prop) (g:α->γ):Ac:=sp1 a c (only P g)
noncomputable def Bt (a:Ty α) (b:Ty β) (c:Ty γ) (P:α->β->Prop) (g:α->β->γ):Ac:=sp2 a b c λx y=>only (λp:α×β=>P p.1 p.2) (λp=>g p.1 p.2) (x,y)
noncomputable def Jt (a:Ty α) (b:Ty β) (d:Ty δ) (c:Ty γ) (P:α->β->δ->Prop) (g:α->β->δ->γ):Ac:=sp3 a b d c λx y z=>only (λp:α×β×δ=>P p.1 p.2.1 p.2.2) (λp=>g p.1 p.2.1 p.2.2) (x,y,z)
variable {E:Env} {pu:FuncId->Bool} {call:Call} {f:FuncId}
theorem AU.c1 {a:Ty α} {c:Ty γ} {P:α->Prop} {g:α->γ} (h:AU E call f (BS a c P g)) {x:α} (hx:P x) (σ:St):call f [a.enc x] σ=some (c.enc (g x),σ):=h.at1 (Km hx) σ
theorem AU.c2 {a:Ty α} {b:Ty β} {c:Ty γ} {P:α->β->Prop} {g:α->β->γ} (h:AU E call f (Bt a b c P g)) {x:α} {y:β} (hx:P x y) (σ:St):call f [a.enc x,b.enc y] σ=some (c.enc (g x y),σ) :=
 h.at2 (Km (P:=λp:α×β=>P p.1 p.2) (g:=λp:α×β=>g p.1 p.2) (x:=(x,y)) hx) σ
theorem AU.c3 {a:Ty α} {b:Ty β} {d:Ty δ} {c:Ty γ} {P:α->β->δ->Prop} {g:α->β->δ->γ} (h:AU E call f (Jt a b d c P g)) {x:α} {y:β} {z:δ} (hx:P x y z) (σ:St):call f [a.enc x,b.enc y,d.enc z] σ=some (c.enc (g x y z),σ) :=
 h.at3 (Km (P:=λp:α×β×δ=>P p.1 p.2.1 p.2.2) (g:=λp:α×β×δ=>g p.1 p.2.1 p.2.2) (x:=(x,y,z)) hx) σ
theorem AU.f1 {a:Ty α} {c:Ty γ} {P:α->Prop} {g:α->γ} (h:AU E call f (BS a c P g)) {x:α} (hx:P x) {v:V} {σ:St} (hv:Bd E σ [v]=some [a.enc x]) (hk:V.kind.kinds [v]<=1\/(c.enc (g x)).scal=true):call f [v] σ=some (c.enc (g x),σ):=by
 refine h hv (Vh (Km hx)) ?_;rcases hk with hk | hk
 ·rw [Nat.ble_eq_true_of_le hk];rfl
 ·rw [hk,Bool.or_true]
variable {lm:List (FuncId×Ac)} {lt:List (FuncId×CK)} {t:CK}
theorem kc1 (hE:Eg E) (hm:EB E (AV lm)) (htx:Dy E pu (AX lt)) (ht:Ad E pu f t) {a:Ty α} {c:Ty γ} {P:α->Prop} {g:α->γ}
 (h: ∀ x,P x->∃ k k' v σ,t (AY E pu (AV lm) (AX lt) k) k' [a.enc x] .empty=some (v,σ)/\Bn E σ v (c.enc (g x))):Ag E f (BS a c P g) :=
 lU hE hm htx ht λx y hy=>by
  obtain ⟨h1,rfl⟩:=Ir hy;exact h x h1
theorem kc2 (hE:Eg E) (hm:EB E (AV lm)) (htx:Dy E pu (AX lt)) (ht:Ad E pu f t) {a:Ty α} {b:Ty β} {c:Ty γ} {P:α->β->Prop} {g:α->β->γ}
 (h: ∀ x y,P x y->∃ k k' v σ,t (AY E pu (AV lm) (AX lt) k) k' [a.enc x,b.enc y] .empty=some (v,σ)/\Bn E σ v (c.enc (g x y))):Ag E f (Bt a b c P g) :=
 lV hE hm htx ht λx y z hz=>by
  obtain ⟨h1,rfl⟩:=Ir hz;exact h x y h1
theorem kc3 (hE:Eg E) (hm:EB E (AV lm)) (htx:Dy E pu (AX lt)) (ht:Ad E pu f t) {a:Ty α} {b:Ty β} {d:Ty δ} {c:Ty γ} {P:α->β->δ->Prop} {g:α->β->δ->γ}
 (h: ∀ x y z,P x y z->∃ k k' v σ,t (AY E pu (AV lm) (AX lt) k) k' [a.enc x,b.enc y,d.enc z] .empty=some (v,σ)/\Bn E σ v (c.enc (g x y z))):Ag E f (Jt a b d c P g) :=
 lW hE hm htx ht λx y z r hr=>by
  obtain ⟨h1,rfl⟩:=Ir hr;exact h x y z h1
theorem C8 {c:Ty γ} {y:γ} {k k':Nat} {vs:List V} {C:Nat->Call} (h: ∃ σ,t (C k) k' vs .empty=some (c.enc y,σ)): ∃ k k' v σ,t (C k) k' vs .empty=some (v,σ)/\Bn E σ v (c.enc y):=by
 obtain ⟨σ,h⟩:=h;exact ⟨k,k',_,σ,h,BV⟩
theorem Bj {f:FuncId} {g:Ac} {mem:FuncId->Option Ac} {txt:FuncId->Option CK} (h:mem f=some g) {k:Nat} (hk:1<=k):AU E (AY E pu mem txt k) f g:=by
 obtain ⟨k,rfl⟩: ∃ k',k=k'+1:=⟨k - 1,by omega⟩
 exact Yn h k
end
def tV0:Ty {v:V // v.kind=0}:=⟨Subtype.val,λ_ _ h=>Subtype.ext h,λa=>a.2⟩
section
variable {E:Env} {pu:FuncId->Bool} {mem:FuncId->Option Ac} {txt:FuncId->Option CK}
theorem ZO {f:FuncId} {t:CK} (h1:mem f=none) (h2:pu f=false) (h3:E.extn f=none) (h4:txt f=some t) (k:Nat) (vs:List V) (σ:St):AY E pu mem txt (k+1) f vs σ=M3 (E.split f) (t (AY E pu mem txt k) k) vs σ:=by
 show (match mem f with | some g=>_ | none=>_)=_;rw [h1];simp only [h2,h3,h4,Bool.false_eq_true,if_false]
theorem DD {f:FuncId} {t:CK} (h1:mem f=none) (h2:pu f=false) (h3:E.extn f=none) (h4:txt f=some t) (k:Nat) (vs:List V) (σ:St) (h5:E.split f=false:=by kernel_rfl):AY E pu mem txt (k+1) f vs σ=t (AY E pu mem txt k) k vs σ:=by
 rw [ZO h1 h2 h3 h4,h5];unfold M3;have:Ja false vs=false:=by unfold Ja;split<;>rfl
 rw [this];rfl
variable {α β γ:Type}
theorem AU.f2 {call:Call} {f:FuncId} {a:Ty α} {b:Ty β} {c:Ty γ} {P:α->β->Prop} {g:α->β->γ} (h:AU E call f (Bt a b c P g)) {x:α} {y:β} (hx:P x y) {v w:V} {σ:St} (hv:Bd E σ [v,w]=some [a.enc x,b.enc y]) (hk:V.kind.kinds [v,w]<=1\/(c.enc (g x y)).scal=true):call f [v,w] σ=some (c.enc (g x y),σ):=by
 refine h hv (Vi (Km (P:=λp:α×β=>P p.1 p.2) (g:=λp:α×β=>g p.1 p.2) (x:=(x,y)) hx)) ?_;rcases hk with hk | hk
 ·rw [Nat.ble_eq_true_of_le hk];rfl
 ·rw [hk,Bool.or_true]
end
theorem Eh {α β:Type} {P:α->Prop} {R:α->β->Prop} [Inhabited β] (h: ∀ x,P x->∃ y,R x y): ∃ F:α->β,∀ x,P x->R x (F x):=by
 classical
 refine ⟨λx=>if hx:P x then (h x hx).choose else default,λx hx=>?_⟩;simp only [dif_pos hx];exact (h x hx).choose_spec
theorem OE (c:UInt8):UInt8.ofNat (by8 c).toNat=c:=by
 unfold by8;rw [Int.toNat_natCast];simp
instance:Inhabited V:=⟨.emp⟩
end SS
namespace Go.Proofs.YtglndmmlghpdpaaGreatDoor
open Go Go.Proofs Go.Shelf
def Hq:Ren :=
 {
  f:=λx =>
   match x with
   | 219=>118
   | 217=>140
   | 225=>141
   | 224=>142
   | 267=>143
   | 266=>151
   | 314=>152
   | n=>n,
  t:=λx =>
   match x with
   | 9=>9
   | 3=>3
   | 4=>4
   | 5=>5
   | 46=>170
   | 146=>201
   | 51=>184
   | n=>n,
  g:=λx =>
   match x with
   | 1=>6
   | n=>n }
theorem l5:Lays.n219 Tryz.prog Hq :=
 { mixed:=Eq.refl true,f217:=Eq.trans Tryz.func140 (congrArg some (Eq.refl (Body.n217 Hq))),
   f219:=Eq.trans Tryz.func118 (congrArg some (Eq.refl (Body.n219 Hq))),
   f224:=Eq.trans Tryz.func142 (congrArg some (Eq.refl (Body.n224 Hq))),
   f225:=Eq.trans Tryz.func141 (congrArg some (Eq.refl (Body.n225 Hq))),
   f266:=Eq.trans Tryz.func151 (congrArg some (Eq.refl (Body.n266 Hq))),
   f267:=Eq.trans Tryz.func143 (congrArg some (Eq.refl (Body.n267 Hq))),
   f314:=Eq.trans Tryz.func152 (congrArg some (Eq.refl (Body.n314 Hq))),t3:=Tryz.underlying3,
   a3:=Tryz.isAgg3,z3:=Tryz.sizeOf3,v3:=Tryz.zeroValue3,t4:=Tryz.underlying4,a4:=Tryz.isAgg4,
   z4:=Tryz.sizeOf4,v4:=Tryz.zeroValue4,t5:=Tryz.underlying5,a5:=Tryz.isAgg5,z5:=Tryz.sizeOf5,
   v5:=Tryz.zeroValue5,t9:=Tryz.underlying9,a9:=Tryz.isAgg9,z9:=Tryz.sizeOf9,v9:=Tryz.zeroValue9,
   t46:=Tryz.underlying170,a46:=Tryz.isAgg170,z46:=Tryz.sizeOf170,v46:=Tryz.zeroValue170,
   t51:=Tryz.underlying184,a51:=Tryz.isAgg184,z51:=Tryz.sizeOf184,v51:=Tryz.zeroValue184,
   t146:=Tryz.underlying201,a146:=Tryz.isAgg201,z146:=Tryz.sizeOf201,v146:=Tryz.zeroValue201,
   g1:=by kernel_rfl }
theorem eF:SS.Q2 env.P 118 6:=λs sub m w hs hm=>by
 refine ⟨?_,Any.stringslite_Index l5 s sub m w hs hm⟩;have hf:env.P.funcs[118]? = some Tryz.f118:=Tryz.func118;have hb: ∃ c,Tryz.f118.body=some c:=⟨_,rfl⟩
 obtain ⟨c,hb⟩:=hb;have hn:Tryz.f118.name≠ "runtime.NumGoroutine" := by
  have:(Tryz.f118.name== "runtime.NumGoroutine")=false:=by kernel_rfl
  simpa using this
 simp [callFunc,hf,hn,hb]
end Go.Proofs.YtglndmmlghpdpaaGreatDoor
