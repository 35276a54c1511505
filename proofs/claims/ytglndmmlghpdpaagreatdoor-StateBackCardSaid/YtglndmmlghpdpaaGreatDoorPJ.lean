/-
  part 10 of the proof; no condition.
-/
import Derived.Test.YtglndmmlghpdpaaGreatDoorPI
namespace Go.Proofs.YtglndmmlghpdpaaGreatDoor
open Go SS
theorem JS {α:Type} {l:List α} {p:α→Bool} {q:Nat→Bool} (h: ∀ (i:Nat) (hi:i<l.length),q i=p l[i]):DN q l.length 0=l.all p :=
 RM p q l fun i x hx=>by
  obtain ⟨hi,rfl⟩:=List.getElem?_eq_some_iff.1 hx
  exact h i hi
section
variable (call:SS.Call) (k:Nat) (σ:SS.St)
theorem wE (c:Int):t30 call k [.int .i64 c] σ=some (.bool (decide (-999≤c)&&decide (c≤999)),σ):=by
 unfold t30
 simp only [↓rK,rP,AL]
 rfl
theorem dX (c:Int):t57 call k [.int .i64 c] σ=some (.bool (decide (1≤c)&&decide (c≤999)),σ):=by
 unfold t57
 simp only [↓rK,rP,AL]
end
theorem IZ {α:Type} (f:α→B) (s:B) (l:List α):find s (l.map f)=match l.findIdx? (fun x=>decide (f x=s)) with | some i=>(i:Int) | none=>-1:=by
 unfold find
 rw [List.findIdx?_map]
 have:(fun x=>decide (f x=s))=((fun x=>x==s)∘f):=by
  funext x;rw [Bool.eq_iff_iff];simp [Function.comp]
 rw [this]
 cases List.findIdx? ((fun x=>x==s)∘f) l<;>rfl
theorem v7 {call:SS.Call} {k:Nat} (m:AQ) (s:B) (hm:m.vars.length<1000000) (hk:m.vars.length<k) :
 ∃ σ,t59 call k [AU.enc m,.str s] .empty=some (.int .i64 (m.variable s),σ):=by
 have hl:=Hl (P:=t59_0 call k) (I:=fun τ=>τ.get 0=some (.blk (V.cellsF (AU.enc m)) 30 0 false)) (mk:=fun i=>[.str s,.ptr 0 0 0,.int .i64 (i:Int)]) (res:=fun i=>[.int .i64 (i:Int)]) (fin:=[]) (id:=0) (n:=m.vars.length)
  (p:=fun i=>if h:i<m.vars.length then decide (m.vars[i].name=s) else false)
  (by
    intro i τ hi hI hp
    simp only [dif_pos hi] at hp
    refine ⟨τ,?_,hI⟩
    unfold t59_0
    simp (disch:=omega) only [↓reduceIte,↓rK,rP,hI,hp]
    rfl)
  (by
    intro i τ hi hI hp
    simp only [dif_pos hi] at hp
    refine ⟨τ,?_,hI⟩
    unfold t59_0
    simp (disch:=omega) only [↓reduceIte,↓rK,rP,hI,hp])
  (by
    intro τ hI
    refine ⟨τ,?_,hI⟩
    unfold t59_0
    simp (disch:=omega) only [↓reduceIte,↓rK,rP,hI])
  m.vars.length 0 k (St.empty.new (.blk (V.cellsF (AU.enc m)) 30 0 false)) (by omega) hk rfl
 obtain ⟨τ,h3,_⟩:=hl
 refine ⟨τ,?_⟩
 unfold t59
 simp only [H9,ES,Gr,BG]
 rw [show ((0:Nat):Int)=0 from rfl] at h3
 rw [h3]
 unfold t59_1 AQ.variable
 rw [IZ,Ha (fun x=>decide (x.name=s)) _ _ (by intro i hi;simp only [dif_pos hi])]
 cases m.vars.findIdx? (fun x=>decide (x.name=s)) with
 | none=>simp only [↓rK,rP,AL];rfl
 | some j=>simp only [↓rK,rP,AL]
theorem qC {call:SS.Call} {k:Nat} (m:AQ) (s:B) (hm:m.procs.length<1000000) (hk:m.procs.length<k) :
 ∃ σ,t55 call k [AU.enc m,.str s] .empty=some (.int .i64 (m.process s),σ):=by
 have hl:=Hl (P:=t55_0 call k) (I:=fun τ=>τ.get 0=some (.blk (V.cellsF (AU.enc m)) 30 0 false)) (mk:=fun i=>[.str s,.ptr 0 0 0,.int .i64 (i:Int)]) (res:=fun i=>[.int .i64 (i:Int)]) (fin:=[]) (id:=0) (n:=m.procs.length)
  (p:=fun i=>if h:i<m.procs.length then decide (m.procs[i].name=s) else false)
  (by
    intro i τ hi hI hp
    simp only [dif_pos hi] at hp
    refine ⟨τ,?_,hI⟩
    unfold t55_0
    simp (disch:=omega) only [↓reduceIte,↓rK,rP,hI,hp]
    rfl)
  (by
    intro i τ hi hI hp
    simp only [dif_pos hi] at hp
    refine ⟨τ,?_,hI⟩
    unfold t55_0
    simp (disch:=omega) only [↓reduceIte,↓rK,rP,hI,hp])
  (by
    intro τ hI
    refine ⟨τ,?_,hI⟩
    unfold t55_0
    simp (disch:=omega) only [↓reduceIte,↓rK,rP,hI])
  m.procs.length 0 k (St.empty.new (.blk (V.cellsF (AU.enc m)) 30 0 false)) (by omega) hk rfl
 obtain ⟨τ,h3,_⟩:=hl
 refine ⟨τ,?_⟩
 unfold t55
 simp only [H9,ES,Gr,BG]
 rw [show ((0:Nat):Int)=0 from rfl] at h3
 rw [h3]
 unfold t55_1 AQ.process
 rw [IZ,Ha (fun x=>decide (x.name=s)) _ _ (by intro i hi;simp only [dif_pos hi])]
 cases m.procs.findIdx? (fun x=>decide (x.name=s)) with
 | none=>simp only [↓rK,rP,AL];rfl
 | some j=>simp only [↓rK,rP,AL]
theorem pM {call:SS.Call} {k:Nat} (m:AQ) (p:Int) (s:B) (hp:p<m.procs.length) (hm: ∀ q∈m.procs,q.locs.length<1000000∧q.locs.length<k) :
 ∃ σ,t45 call k [AU.enc m,.int .i64 p,.str s] .empty=some (.int .i64 (m.place p s),σ):=by
 by_cases hneg:p<0
 ·refine ⟨St.empty.new (.blk (V.cellsF (AU.enc m)) 30 0 false),?_⟩
  unfold t45 AQ.place
  simp (disch:=omega) only [↓reduceIte,↓rK,rP,AL,hneg]
  rfl
 ·obtain ⟨q,rfl⟩: ∃ q:Nat,p=(q:Int):=⟨p.toNat,by omega⟩
  have hq:q<m.procs.length:=by omega
  obtain ⟨h1,hk⟩:=hm _ (List.getElem_mem hq)
  have hl:=Hl (P:=t45_0 call k) (I:=fun τ=>τ.get 0=some (.blk (V.cellsF (AU.enc m)) 30 0 false)) (mk:=fun i=>[.int .i64 (q:Int),.str s,.ptr 0 0 0,.int .i64 (i:Int)]) (res:=fun i=>[.int .i64 (i:Int)]) (fin:=[]) (id:=0) (n:=m.procs[q].locs.length)
   (p:=fun i=>if h:i<m.procs[q].locs.length then decide (m.procs[q].locs[i]=s) else false)
   (by
     intro i τ hi hI hp
     simp only [dif_pos hi] at hp
     refine ⟨τ,?_,hI⟩
     unfold t45_0
     simp (disch:=omega) only [↓reduceIte,↓rK,rP,hI,hp]
     rfl)
   (by
     intro i τ hi hI hp
     simp only [dif_pos hi] at hp
     refine ⟨τ,?_,hI⟩
     unfold t45_0
     simp (disch:=omega) only [↓reduceIte,↓rK,rP,hI,hp])
   (by
     intro τ hI
     refine ⟨τ,?_,hI⟩
     unfold t45_0
     simp (disch:=omega) only [↓reduceIte,↓rK,rP,hI])
   m.procs[q].locs.length 0 k (St.empty.new (.blk (V.cellsF (AU.enc m)) 30 0 false)) (by omega) hk rfl
  obtain ⟨τ,h3,_⟩:=hl
  refine ⟨τ,?_⟩
  unfold t45
  simp (disch:=omega) only [NR,ES,Gr,BG,Qq,XG,J8,decide_eq_false,Bool.false_eq_true,if_false]
  rw [show ((0:Nat):Int)=0 from rfl] at h3
  rw [h3]
  unfold t45_1 AQ.place
  rw [if_neg hneg,Int.toNat_natCast,List.getElem?_eq_getElem hq]
  simp only
  have e:=IZ (fun x:B=>x) s m.procs[q].locs
  rw [List.map_id'] at e
  rw [e,Ha (fun x=>decide (x=s)) _ _ (by intro i hi;simp only [dif_pos hi])]
  cases m.procs[q].locs.findIdx? (fun x=>decide (x=s)) with
  | none=>simp only [↓rK,rP,AL];rfl
  | some j=>simp only [↓rK,rP,AL]
theorem WF: ∀ l:List B,twice l=true↔∃ i j,∃ (hi:i<l.length) (hj:j<i),l[i]=l[j]
 | []=>by simp [twice]
 | a :: l=>by
  show (twice l||l.contains a)=true↔_
  rw [Bool.or_eq_true,WF l,List.contains_iff_exists_mem_beq]
  constructor
  ·rintro (⟨i,j,hi,hj,e⟩ | ⟨b,hb,e⟩)
   ·exact ⟨i+1,j+1,by simpa using hi,by omega,by simpa using e⟩
   ·obtain ⟨i,hi,rfl⟩:=List.getElem_of_mem hb
    exact ⟨i+1,0,by simpa using hi,by omega,by simpa using (beq_iff_eq.1 e).symm⟩
  ·rintro ⟨i,j,hi,hj,e⟩
   obtain ⟨i,rfl⟩: ∃ i',i=i'+1:=⟨i - 1,by omega⟩
   cases j with
   | zero=>exact .inr ⟨l[i]'(by simpa using hi),List.getElem_mem _,by simp at e;rw [e];simp⟩
   | succ j=>exact .inl ⟨i,j,by simpa using hi,by omega,by simpa using e⟩
theorem vE {call:SS.Call} {k:Nat} (l:List B) (hl:l.length<1000000) (hk:l.length<k) (σ:SS.St) :
 t31 call k [(AA AC).enc l] σ=some (.bool (twice l),σ):=by
 have inner: ∀ i,i<l.length→t31_2 call k [(AA AC).enc l,.int .i64 (i:Int)] σ=bif DN (fun j=>if h:i<l.length∧j<l.length then decide (l[i]≠l[j]) else true) i 0 then some (.norm,[(AA AC).enc l,.int .i64 ((i+1:Nat):Int)],σ) else some (.ret,[.bool true],σ):=by
  intro i hi
  obtain ⟨τ,h3,rfl⟩:=Ea (P:=t31_0 call k) (I:=fun τ=>τ=σ) (mk:=fun j=>[(AA AC).enc l,.int .i64 (i:Int),.int .i64 (j:Int)]) (fin:=[(AA AC).enc l,.int .i64 (i:Int)]) (res:=[.bool true]) (id:=2) (n:=i)
   (ok:=fun j=>if h:i<l.length∧j<l.length then decide (l[i]≠l[j]) else true)
   (by
     rintro j τ hj rfl ho
     have hj2:j<l.length:=by omega
     simp only [dif_pos (And.intro hi hj2)] at ho
     have ho:decide (l[i]=l[j])=false:=by simpa using ho
     refine ⟨τ,?_,rfl⟩
     unfold t31_0
     simp (disch:=omega) only [↓reduceIte,↓rK,rP,ho]
     rfl)
   (by
     rintro j τ hj rfl ho
     have hj2:j<l.length:=by omega
     simp only [dif_pos (And.intro hi hj2)] at ho
     have ho:decide (l[i]=l[j])=true:=by simpa using ho
     refine ⟨τ,?_,rfl⟩
     unfold t31_0
     simp (disch:=omega) only [↓reduceIte,↓rK,rP,ho])
   (by
     rintro τ rfl
     refine ⟨τ,?_,rfl⟩
     unfold t31_0
     simp (disch:=omega) only [↓reduceIte,↓rK,rP])
   i 0 k σ (by omega) (by omega) rfl
  unfold t31_2
  simp (disch:=omega) only [↓reduceIte,↓rK,rP]
  rw [show ((0:Nat):Int)=0 from rfl] at h3
  rw [h3]
  unfold t31_1
  cases DN (fun j=>if h:i<l.length∧j<l.length then decide (l[i]≠l[j]) else true) i 0 with
  | true=>simp (disch:=omega) only [↓rK,rP,cond_true];rfl
  | false=>simp (disch:=omega) only [rP,cond_false]
 obtain ⟨τ,h3,rfl⟩:=Ea (P:=t31_2 call k) (I:=fun τ=>τ=σ) (mk:=fun i=>[(AA AC).enc l,.int .i64 (i:Int)]) (fin:=[]) (res:=[.bool true]) (id:=0) (n:=l.length)
  (ok:=fun i=>DN (fun j=>if h:i<l.length∧j<l.length then decide (l[i]≠l[j]) else true) i 0)
  (by
    rintro i τ hi rfl ho
    refine ⟨τ,?_,rfl⟩
    rw [inner i hi,ho];rfl)
  (by
    rintro i τ hi rfl ho
    refine ⟨τ,?_,rfl⟩
    rw [inner i hi,ho];rfl)
  (by
    rintro τ rfl
    refine ⟨τ,?_,rfl⟩
    unfold t31_2
    simp (disch:=omega) only [↓reduceIte,↓rK,rP])
  l.length 0 k σ (by omega) hk rfl
 rw [show ((0:Nat):Int)=0 from rfl] at h3
 unfold t31
 simp only [Ej,ES]
 rw [h3]
 unfold t31_3
 have key:(!twice l)=DN (fun i=>DN (fun j=>if h:i<l.length∧j<l.length then decide (l[i]≠l[j]) else true) i 0) l.length 0:=by
  rw [Bool.eq_iff_iff,Bool.not_eq_true',←Bool.not_eq_true,WF,Gy]
  constructor
  ·intro h i _ hi
   rw [Gy]
   intro j _ hj
   have hi:i<l.length:=by omega
   rw [dif_pos ⟨hi,by omega⟩]
   exact decide_eq_true fun e=>h ⟨i,j,hi,by omega,e⟩
  ·rintro h ⟨i,j,hi,hj,e⟩
   have:=h i (by omega) (by omega)
   rw [Gy] at this
   have:=this j (by omega) (by omega)
   rw [dif_pos ⟨hi,by omega⟩] at this
   exact of_decide_eq_true this e
 rw [←key]
 cases twice l<;>simp only [↓rK,rP,AL,cond_true,cond_false]
theorem ZT {call:SS.Call} {k:Nat} (h1: ∀ (s:B) τ,s.length<1000000→call 29 [.str s] τ=some (.bool (isWord s),τ)) (s:B) (hs:s.length<1000000) (σ:SS.St) :
 t56 call k [.str s] σ=some (.tup [.str s.dropLast,.bool (Ee s)],σ):=by
 unfold t56
 by_cases h:s=[]
 ·subst h
  simp (disch:=omega) only [↓reduceIte,↓rK,rP,AL];rfl
 ·have hl:0<s.length:=List.length_pos_iff.2 h
  have e1:((s.length:Int) - 1)=((s.length - 1:Nat):Int):=by omega
  have e2:s.dropLast.length<1000000:=by rw [List.length_dropLast];omega
  simp (disch:=omega) only [↓reduceIte,↓rK,rP,h,e1]
  simp (disch:=omega) only [↓rK,rP,AL,Nat.sub_zero,←List.dropLast_eq_take,h1 _ _ e2]
  rw [show s.drop (s.length - 1)=[s.getLast h] by rw [List.drop_eq_getElem_cons (by omega),List.drop_of_length_le (by omega),List.getLast_eq_getElem]]
  unfold Ee
  have e3:s.getLast? = some (s.getLast h):=List.getLast?_eq_some_getLast h
  have e4:(s==[])=false:=by simpa using h
  have e5: ∀ c:UInt8,decide ([s.getLast h]=[c])=(s.getLast? == some c):=by
   intro c;rw [e3,Bool.eq_iff_iff];simp
  rw [e4,e5,e5,Bool.false_or]
end Go.Proofs.YtglndmmlghpdpaaGreatDoor
namespace Go.Proofs.YtglndmmlghpdpaaGreatDoor
open Go SS
set_option maxRecDepth 100000
theorem Cv:(env.P.info? 122).map (·.size)=some 4:=by kernel_rfl
theorem FW:(env.P.info? 62).map (·.size)=some 4:=by kernel_rfl
theorem ER:(env.P.info? 43).map (·.size)=some 2:=by kernel_rfl
theorem MM (x y:Operand) (a1 a2 b1 b2:Int) (a3 a4 b3 b4:B) (σ:St):Cn env .neq 122 x y (.agg [.int .i64 a1,.int .i64 a2,.str a3,.str a4]) (.agg [.int .i64 b1,.int .i64 b2,.str b3,.str b4]) σ =
 some (.bool (!(decide (a1=b1)&&(decide (a2=b2)&&(decide (a3=b3)&&decide (a4=b4)))))):=by
 have h:Cn env .neq 122 x y (.agg [.int .i64 a1,.int .i64 a2,.str a3,.str a4]) (.agg [.int .i64 b1,.int .i64 b2,.str b3,.str b4]) σ =
  some (.bool (!((a1==b1)&&((a2==b2)&&(EB a3 b3&&(EB a4 b4&&true)))))):=by kernel_rfl
 rw [h,←KS,←KS,NM,NM,Bool.and_true]
 rfl
def Cg (l:List Al):Prop:=l.length<1000000∧∀ t∈l,t.name.length<1000000∧t.loc.length<1000000
set_option maxHeartbeats 8000000 in
theorem q9 {call:SS.Call} {k:Nat} (h1: ∀ (s:B) τ,s.length<1000000→call 29 [.str s] τ=some (.bool (isWord s),τ)) (h2: ∀ (n:Int) τ,call 103 [.int .i64 n] τ=some (.int .i64 (arity n),τ))
 (l:List Al) (hs:Cg l) (hk:l.length<k) (σ:SS.St): ∃ σ',t77 call k [(AA Ae).enc l] σ=some (.bool (Ck l),σ'):=by
 have hl:=Br (P:=t77_1 call k) (Inv:=fun m vs τ=>∃ (i:Nat) (n:Int),m+i=l.length∧vs=[(AA Ae).enc l,.int .i64 n,.int .i64 (i:Int)]∧0≤n∧n≤i∧DK (l.drop i) n=DK l 0)
  (Q:=fun x=>(x.1=.exit 0∧∃ n,x.2.1=[(AA Ae).enc l,.int .i64 n]∧DK l 0=some n)∨(x.1=.ret∧x.2.1=[.bool false]∧DK l 0=none))
  (by
    rintro m vs τ ⟨i,n,hm,rfl,hn0,hni,hr⟩
    have hlen:=hs.1
    by_cases hi:i<l.length
    ·obtain ⟨hn1,hn2⟩:=hs.2 _ (List.getElem_mem hi)
     have ha:arity l[i].op=-1∨arity l[i].op=0∨arity l[i].op=1∨arity l[i].op=2:=by unfold arity;split<;>(try split)<;>(try split)<;>simp
     rw [List.drop_eq_getElem_cons hi] at hr
     have hr:(if l[i].may=true∧arity l[i].op≤n then DK (l.drop (i+1)) (n - arity l[i].op+1) else none)=DK l 0:=hr
     obtain ⟨r,hr1⟩: ∃ r,t77_1 call k [(AA Ae).enc l,.int .i64 n,.int .i64 (i:Int)] τ=r:=⟨_,rfl⟩
     rw [hr1]
     unfold t77_1 at hr1
     have fin: ∀ (C:Bool) (a:Int) (τa τb:St),a=arity l[i].op→C=!(l[i].may&&decide (arity l[i].op≤n))→((if C=true then some (.ret,[.bool false],τa) else CO 9223372036854775807 IntKind.i64 n a fun x=>Aa 9223372036854775807 IntKind.i64 x 1 fun y=>some (.norm,[(AA Ae).enc l,.int .i64 y,.int .i64 ((i:Int)+1)],τb))=r) →
      (∃ m' vs' σ',m'<m∧r=some (.norm,vs',σ')∧∃ (i:Nat) (n:Int),m'+i=l.length∧vs'=[(AA Ae).enc l,.int .i64 n,.int .i64 (i:Int)]∧0≤n∧n≤i∧DK (l.drop i) n=DK l 0) ∨
      ∃ e vs' σ',r=some (e,vs',σ')∧e≠.norm∧(((e,vs',σ').1=.exit 0∧∃ n,(e,vs',σ').2.1=[(AA Ae).enc l,.int .i64 n]∧DK l 0=some n)∨((e,vs',σ').1=.ret∧(e,vs',σ').2.1=[.bool false]∧DK l 0=none)):=by
      rintro C a τa τb rfl hC h
      cases hb:(l[i].may&&decide (arity l[i].op≤n)) with
      | false =>
       rw [hb] at hC
       subst hC
       rw [if_pos (show (!false)=true from rfl)] at h
       refine .inr ⟨_,_,_,h.symm,(by intro h;cases h),.inr ⟨rfl,rfl,?_⟩⟩
       rw [←hr,if_neg]
       intro hx
       rw [hx.1,decide_eq_true hx.2] at hb
       cases hb
      | true =>
       rw [hb] at hC
       subst hC
       rw [Bool.and_eq_true,decide_eq_true_eq] at hb
       rw [if_pos hb] at hr
       have ha0:0≤arity l[i].op:=by
        rcases ha with e | e | e | e<;>rw [e]<;>try decide
        exfalso
        have hm:=hb.1
        unfold Al.may at hm
        unfold arity at e hm
        split at e<;>grind
       rw [if_neg (by decide)] at h
       simp (disch:=omega) only [Qy,NK] at h
       refine .inl ⟨m - 1,_,_,by omega,h.symm,i+1,n - arity l[i].op+1,by omega,by simp,by omega,by omega,hr⟩
     by_cases o1:l[i].op=1
     ·simp (disch:=first | exact dD _ | assumption) only [↓reduceIte,↓rK,rP,Nat.reduceAdd,Av Cv,h2,o1] at hr1
      unfold t77_0 at hr1
      simp (disch:=first | exact dD _ | assumption) only [↓reduceIte,↓rK,rO,Nat.reduceAdd,h1,MM] at hr1
      refine fin _ _ _ _ (by rw [o1]) ?_ hr1
      unfold Al.may arity
      grind
     by_cases o2:l[i].op=2
     ·simp (disch:=first | exact dD _ | assumption) only [↓reduceIte,↓rK,rP,Nat.reduceAdd,Av Cv,h2,o2] at hr1
      unfold t77_0 at hr1
      simp (disch:=first | exact dD _ | assumption) only [↓reduceIte,↓rK,rO,Nat.reduceAdd,h1,MM] at hr1
      refine fin _ _ _ _ (by rw [o2]) ?_ hr1
      unfold Al.may arity
      grind
     by_cases o3:l[i].op=3
     ·simp (disch:=first | exact dD _ | assumption) only [↓reduceIte,↓rK,rP,Nat.reduceAdd,Av Cv,h2,o3] at hr1
      unfold t77_0 at hr1
      simp (disch:=first | exact dD _ | assumption) only [↓reduceIte,↓rK,rO,Nat.reduceAdd,h1,MM] at hr1
      refine fin _ _ _ _ (by rw [o3]) ?_ hr1
      unfold Al.may arity
      grind
     ·clear ha
      simp (disch:=first | exact dD _ | assumption) only [↓reduceIte,↓rK,rP,Av Cv,h2,o1,o2,o3] at hr1
      unfold t77_0 at hr1
      simp (disch:=first | exact dD _ | assumption) only [↓reduceIte,↓rK,rO,Nat.reduceAdd,h1,o2,o3,MM] at hr1
      refine fin _ _ _ _ rfl ?_ hr1
      unfold Al.may arity
      grind
    ·have he:i=l.length:=by omega
     subst he
     refine .inr ⟨.exit 0,[(AA Ae).enc l,.int .i64 n],τ,?_,(by intro h;cases h),.inl ⟨rfl,n,rfl,?_⟩⟩
     ·unfold t77_1
      simp (disch:=first | exact dD _ | assumption) only [↓reduceIte,↓rK,rP]
     ·rw [←hr,List.drop_length];rfl)
  l.length k [(AA Ae).enc l,.int .i64 0,.int .i64 0] σ hk ⟨0,0,by omega,rfl,by omega,by omega,rfl⟩
 obtain ⟨e,vs',σ',h3,_,hQ⟩:=hl
 refine ⟨σ',?_⟩
 unfold t77
 simp only [Ej,ES,h3]
 unfold t77_2 Ck
 rcases hQ with ⟨e1,n,e2,e3⟩ | ⟨e1,e2,e3⟩
 ·simp only at e1 e2
  rw [e1,e2,e3]
  simp (disch:=first | exact dD _ | assumption) only [↓rK,rP,AL]
  have a1:decide ((l.length:Int)≤30)=decide (l.length≤30):=decide_eq_decide.2 (by omega)
  rw [a1]
  have a2:decide (n=1)=(n==1):=rfl
  rw [a2];simp
 ·simp only at e1 e2
  rw [e1,e2,e3]
  simp (disch:=first | exact dD _ | assumption) only [↓rK,rP,AL]
  rfl
def Dg (t:Bi):Prop:=t.proc.length<1000000∧t.from_.length<1000000∧t.to.length<1000000∧t.sync.length<1000000∧Cg t.guard∧t.effs.length<1000000∧∀ e∈t.effs,e.name.length<1000000∧Cg e.to
structure Ao (m:AQ):Prop where
 vars:m.vars.length<1000000
 var: ∀ v∈m.vars,v.name.length<1000000
 procs:m.procs.length<1000000
 proc: ∀ p∈m.procs,p.name.length<1000000∧p.locs.length<1000000∧∀ s∈p.locs,s.length<1000000
 trans:m.trans.length<1000000
 tran: ∀ t∈m.trans,Dg t
theorem bI (s:B) (l:List B):find s l<l.length:=by
 unfold find
 split
 ·rename_i i h
  have:=(List.findIdx?_eq_some_iff_getElem.1 h).1
  omega
 ·omega
theorem P5 (m:AQ) (s:B):m.process s<m.procs.length:=by
 have:=bI s (m.procs.map (·.name))
 rw [List.length_map] at this
 exact this
structure Q2 (call:SS.Call):Prop where
 isWord: ∀ (s:B) τ,s.length<1000000→call 29 [.str s] τ=some (.bool (isWord s),τ)
 variable_: ∀ (m:AQ) (s:B) τ,Ao m→call 59 [AU.enc m,.str s] τ=some (.int .i64 (m.variable s),τ)
 process: ∀ (m:AQ) (s:B) τ,Ao m→call 55 [AU.enc m,.str s] τ=some (.int .i64 (m.process s),τ)
 place: ∀ (m:AQ) (p:Int) (s:B) τ,Ao m→p<m.procs.length→call 45 [AU.enc m,.int .i64 p,.str s] τ=some (.int .i64 (m.place p s),τ)
 right: ∀ (l:List Al) τ,Cg l→call 77 [(AA Ae).enc l] τ=some (.bool (Ck l),τ)
theorem lW {call:SS.Call} (h:Q2 call) {k:Nat} (m:AQ) (l:List Al) (hm:Ao m) (hs:Cg l) (hk:l.length<k) :
 ∃ σ',t58 call k [AU.enc m,(AA Ae).enc l] .empty=some (.bool (m.known l),σ'):=by
 have h1:=h.isWord;have h2:=h.variable_;have h3:=h.process;have h4:=h.place;have h5:=h.right
 have hlen:=hs.1
 have hb: ∀ (i:Nat) τ (hi:i<l.length),τ.get 0=some (.blk (V.cellsF (AU.enc m)) 30 0 false) →
  t58_0 call k [(AA Ae).enc l,.ptr 0 0 0,.int .i64 (i:Int)] τ=bif m.knows l[i] then some (.norm,[(AA Ae).enc l,.ptr 0 0 0,.int .i64 ((i+1:Nat):Int)],τ) else some (.ret,[.bool false],τ):=by
  intro i τ hi hI
  have hp:=P5 m l[i].name
  unfold t58_0
  simp (disch:=first | exact dD _ | assumption) only [↓reduceIte,↓rK,rP,Nat.reduceAdd,hI,h2,h3,h4]
  unfold AQ.knows
  by_cases o2:l[i].op=2
  ·have o3:¬l[i].op=3:=by omega
   simp only [o2]
   by_cases hv:m.variable l[i].name<0
   ·have:¬0≤m.variable l[i].name:=by omega
    simp [hv,this]
   ·have:0≤m.variable l[i].name:=by omega
    simp [hv,this]
  ·by_cases o3:l[i].op=3
   ·simp only [o3]
    by_cases hv:m.place (m.process l[i].name) l[i].loc<0
    ·have:¬0≤m.place (m.process l[i].name) l[i].loc:=by omega
     simp [hv,this]
    ·have:0≤m.place (m.process l[i].name) l[i].loc:=by omega
     simp [hv,this]
   ·simp [o2,o3]
 obtain ⟨τ,h6,h7⟩:=Ea (P:=t58_0 call k) (I:=fun τ=>τ.get 0=some (.blk (V.cellsF (AU.enc m)) 30 0 false)) (mk:=fun i=>[(AA Ae).enc l,.ptr 0 0 0,.int .i64 (i:Int)]) (fin:=[(AA Ae).enc l]) (res:=[.bool false]) (id:=0) (n:=l.length)
  (ok:=fun i=>if h:i<l.length then m.knows l[i] else true)
  (by
    intro i τ hi hI ho
    simp only [dif_pos hi] at ho
    exact ⟨τ,by rw [hb i τ hi hI,ho];rfl,hI⟩)
  (by
    intro i τ hi hI ho
    simp only [dif_pos hi] at ho
    exact ⟨τ,by rw [hb i τ hi hI,ho];rfl,hI⟩)
  (by
    intro τ hI
    refine ⟨τ,?_,hI⟩
    unfold t58_0
    simp (disch:=first | exact dD _ | assumption) only [↓reduceIte,↓rK,rP])
  l.length 0 k (St.empty.new (.blk (V.cellsF (AU.enc m)) 30 0 false)) (by omega) hk rfl
 rw [show ((0:Nat):Int)=0 from rfl,JS (p:=m.knows) (by intro i hi;simp only [dif_pos hi])] at h6
 refine ⟨τ,?_⟩
 unfold t58
 simp only [H9,ES,Gr,BG,h6]
 unfold t58_1 AQ.known
 cases l.all m.knows with
 | false=>simp only [rP,AL,cond_false]
 | true=>simp (disch:=first | exact dD _ | assumption) only [↓rK,rP,AL,cond_true,h5]
theorem qZ {call:SS.Call} (h:Q2 call) (h6: ∀ (s:B) τ,s.length<1000000→call 56 [.str s] τ=some (.tup [.str s.dropLast,.bool (Ee s)],τ)) (h7: ∀ (c:Int) τ,call 57 [.int .i64 c] τ=some (.bool (decide (1≤c)&&decide (c≤999)),τ))
 (h8: ∀ (m:AQ) (l:List Al) τ,Ao m→Cg l→call 58 [AU.enc m,(AA Ae).enc l] τ=some (.bool (m.known l),τ)) {k:Nat} (m:AQ) (t:Bi) (hm:Ao m) (hs:Dg t) (hk:t.effs.length<k) :
 ∃ σ',t32 call k [AU.enc m,BJ.enc t] .empty=some (.bool (m.rightT t),σ'):=by
 have h2:=h.variable_;have h3:=h.process;have h4:=h.place
 obtain ⟨s1,s2,s3,s4,s5,s6,s7⟩:=hs
 have hb: ∀ (i:Nat) τ (hi:i<t.effs.length),(τ.get 0=some (.blk (V.cellsF (AU.enc m)) 30 0 false)∧τ.get 1=some (.blk (V.cellsF (BJ.enc t)) 70 0 false)) →
  t32_0 call k [.ptr 0 0 0,.ptr 1 0 0,.int .i64 (i:Int)] τ=bif decide (0≤m.variable t.effs[i].name)&&m.known t.effs[i].to then some (.norm,[.ptr 0 0 0,.ptr 1 0 0,.int .i64 ((i+1:Nat):Int)],τ) else some (.ret,[.bool false],τ):=by
  rintro i τ hi ⟨hI,hJ⟩
  obtain ⟨e1,e2⟩:=s7 _ (List.getElem_mem hi)
  unfold t32_0
  simp (disch:=first | exact dD _ | assumption) only [↓reduceIte,↓rK,rP,Nat.reduceAdd,hI,hJ,h2,h8]
  by_cases hv:m.variable t.effs[i].name<0
  ·have:¬0≤m.variable t.effs[i].name:=by omega
   simp [hv,this]
  ·have:0≤m.variable t.effs[i].name:=by omega
   cases m.known t.effs[i].to<;>simp [hv,this]
 obtain ⟨τ,g1,g2⟩:=Ea (P:=t32_0 call k) (I:=fun τ=>τ.get 0=some (.blk (V.cellsF (AU.enc m)) 30 0 false)∧τ.get 1=some (.blk (V.cellsF (BJ.enc t)) 70 0 false)) (mk:=fun i=>[.ptr 0 0 0,.ptr 1 0 0,.int .i64 (i:Int)]) (fin:=[]) (res:=[.bool false]) (id:=0) (n:=t.effs.length)
  (ok:=fun i=>if h:i<t.effs.length then decide (0≤m.variable t.effs[i].name)&&m.known t.effs[i].to else true)
  (by
    intro i τ hi hI ho
    simp only [dif_pos hi] at ho
    exact ⟨τ,by rw [hb i τ hi hI,ho];rfl,hI⟩)
  (by
    intro i τ hi hI ho
    simp only [dif_pos hi] at ho
    exact ⟨τ,by rw [hb i τ hi hI,ho];rfl,hI⟩)
  (by
    rintro τ ⟨hI,hJ⟩
    refine ⟨τ,?_,hI,hJ⟩
    unfold t32_0
    simp (disch:=first | exact dD _ | assumption) only [↓reduceIte,↓rK,rP,hJ])
  t.effs.length 0 k ((St.empty.new (.blk (V.cellsF (AU.enc m)) 30 0 false)).new (.blk (V.cellsF (BJ.enc t)) 70 0 false)) (by omega) hk ⟨by simp [St.zAE,AZ,BG],by simp [St.zAE,AZ,BG]⟩
 rw [show ((0:Nat):Int)=0 from rfl,JS (p:=fun e=>decide (0≤m.variable e.name)&&m.known e.to) (by intro i hi;simp only [dif_pos hi])] at g1
 have hp:=P5 m t.proc
 obtain ⟨r,hr⟩: ∃ r,t32 call k [AU.enc m,BJ.enc t] .empty=r:=⟨_,rfl⟩
 rw [hr]
 unfold t32 at hr
 simp (disch:=first | exact dD _ | assumption) only [↓reduceIte,↓rK,rO,Nat.reduceAdd,Nat.reduceEqDiff,h3,h4,h6,h7,h8] at hr
 simp only [EC,OC] at g1
 rw [g1] at hr
 unfold t32_1 at hr
 have hall:t.effs.all (fun e=>decide (0≤m.variable e.name)&&m.known e.to)=t.effs.all fun e=>decide (0≤m.variable e.name)&&m.known e.to:=rfl
 cases ha:t.effs.all (fun e=>decide (0≤m.variable e.name)&&m.known e.to) with
 | false =>
  rw [ha] at hr
  split at hr<;>simp only [rO,AL,cond_false] at hr<;>exact ⟨_,hr.symm.trans (congrArg (fun b=>some (V.bool b,_)) (by unfold AQ.rightT;rw [ha];simp))⟩
 | true =>
  rw [ha] at hr
  split at hr
  ·rename_i hC
   simp only [rO,AL] at hr
   exact ⟨_,hr.symm.trans (congrArg (fun b=>some (V.bool b,_)) (by unfold AQ.rightT;rw [ha];grind))⟩
  ·rename_i hC
   simp only [↓rK,rO,AL,cond_true] at hr
   exact ⟨_,hr.symm.trans (congrArg (fun b=>some (V.bool b,_)) (by unfold AQ.rightT;rw [ha];grind))⟩
theorem Jv {τ:St} {v:V} {l:List B} {b:Nat} (h:Lst τ 9 1 v l.length (rows AC l) b):Bb env τ [v]=some [(AA AC).enc l]:=by
 have hi:(env.P.info? 9).map (·.size)=some 1:=by kernel_rfl
 have hd:env.P.underlying 9=some .string:=by kernel_rfl
 obtain ⟨i,h1,h2⟩:=Option.map_eq_some_iff.1 hi
 have hf:=UU (E:=env) (n:=63) h h1 hd h2 (by decide) (fun _=>rfl) (fun _=>rfl) Vi (by decide)
 have hk:v.kind≠0:=by
  rcases h with ⟨rfl,_⟩ | ⟨_,rfl,_⟩<;>intro h<;>cases h
 show (match (bif Nat.beq v.kind 0 then some v else frz env τ DP v),Bb env τ [] with | some x,some xs=>some (x :: xs) | _,_=>none)=_
 have:Nat.beq v.kind 0=false:=by rw [Fw];exact decide_eq_false hk
 rw [this]
 show (match frz env τ 64 v,_ with | some x,some xs=>some (x :: xs) | _,_=>none)=_
 rw [hf];rfl
structure KD (call:SS.Call):Prop where
 isWord: ∀ (s:B) τ,s.length<1000000→call 29 [.str s] τ=some (.bool (isWord s),τ)
 within999: ∀ (c:Int) τ,call 30 [.int .i64 c] τ=some (.bool (decide (-999≤c)&&decide (c≤999)),τ)
 twice: ∀ (v:V) (l:List B) τ,Bb env τ [v]=some [(AA AC).enc l]→l.length<1000000→call 31 [v] τ=some (.bool (twice l),τ)
 rightT: ∀ (m:AQ) (t:Bi) τ,Ao m→Dg t→call 32 [AU.enc m,BJ.enc t] τ=some (.bool (m.rightT t),τ)
theorem rF {call:SS.Call} (h:KD call) {k:Nat} (m:AQ) (hm:Ao m) (hk:m.vars.length<k) :
 ∃ e vs' τ,Ak (t8_0 call k) k [.ptr 0 0 0,.nilS,.nilS,.int .i64 0] (St.empty.new (.blk (V.cellsF (AU.enc m)) 30 0 false))=some (e,vs',τ)∧e≠.norm ∧
  ((e=.exit 0∧∃ x b,vs'=[.ptr 0 0 0,x,.nilS]∧τ.get 0=some (.blk (V.cellsF (AU.enc m)) 30 0 false)∧0<τ.n∧Lst τ 9 1 x m.vars.length (rows AC (m.vars.map (·.name))) b∧b≠0∧m.vars.all (·.right)=true) ∨
   (e=.ret∧vs'=[.bool false]∧m.vars.all (·.right)=false)):=by
 have h1:=h.isWord;have h2:=h.within999
 have hlen:=hm.vars
 refine Br (Inv:=fun r vs τ=>∃ (i:Nat) (x:V) (b:Nat),r+i=m.vars.length∧vs=[.ptr 0 0 0,x,.nilS,.int .i64 (i:Int)]∧τ.get 0=some (.blk (V.cellsF (AU.enc m)) 30 0 false)∧0<τ.n∧Lst τ 9 1 x i (rows AC ((m.vars.take i).map (·.name))) b∧b≠0∧(m.vars.take i).all (·.right)=true)
  (Q:=fun y=>(y.1=.exit 0∧∃ x b,y.2.1=[.ptr 0 0 0,x,.nilS]∧y.2.2.get 0=some (.blk (V.cellsF (AU.enc m)) 30 0 false)∧0<y.2.2.n∧Lst y.2.2 9 1 x m.vars.length (rows AC (m.vars.map (·.name))) b∧b≠0∧m.vars.all (·.right)=true) ∨
    (y.1=.ret∧y.2.1=[.bool false]∧m.vars.all (·.right)=false))
  ?_ m.vars.length k [.ptr 0 0 0,.nilS,.nilS,.int .i64 0] (St.empty.new (.blk (V.cellsF (AU.enc m)) 30 0 false)) hk ⟨0,.nilS,1,by omega,rfl,rfl,by rw [AZ];omega,DI _ _ _ _,by decide,rfl⟩
 rintro r vs τ ⟨i,x,b,hr,rfl,hI,hn,hL,hb0,hall⟩
 by_cases hi:i<m.vars.length
 ·have hw:=hm.var _ (List.getElem_mem hi)
  obtain ⟨b1,hL1,hb1⟩:=EI 5 hL
  have hL2:=hL1.of (σ':=(τ.new (.blk [.str [],.int .i64 0,.int .i64 0,.int .i64 0] 62 0 false)).put τ.n (.blk [.str m.vars[i].name,.int .i64 m.vars[i].low,.int .i64 m.vars[i].high,.int .i64 m.vars[i].init] 62 0 false))
   (fun hc=>by rw [St.zAG,if_neg (by omega),St.zAE,if_neg (by omega)]) (by rw [Au,AZ];omega)
  obtain ⟨x',b',σ',ha,hL',hn',hfr,hb',hbn'⟩:=DV (new:=[.str m.vars[i].name]) hL2 (by omega) rfl (by decide)
  rw [Au,AZ] at hn' hfr hb'
  have hv:σ'.get τ.n=some (.blk [.str m.vars[i].name,.int .i64 m.vars[i].low,.int .i64 m.vars[i].high,.int .i64 m.vars[i].init] 62 0 false):=by
   rw [hfr τ.n (by omega) (by omega),St.zAG,if_pos rfl]
  have h0:σ'.get 0=some (.blk (V.cellsF (AU.enc m)) 30 0 false):=by
   rw [hfr 0 (by omega) (by omega),St.zAG,if_neg (by omega),St.zAE,if_neg (by omega)];exact hI
  have hrow:rows AC ((m.vars.take (i+1)).map (·.name))=rows AC ((m.vars.take i).map (·.name))++[.str m.vars[i].name]:=by
   rw [List.take_succ_eq_append_getElem hi,List.map_append];exact DL AC _ _
  obtain ⟨q,hq⟩: ∃ q,t8_0 call k [.ptr 0 0 0,x,.nilS,.int .i64 (i:Int)] τ=q:=⟨_,rfl⟩
  rw [hq]
  unfold t8_0 at hq
  simp (disch:=first | exact dD _ | assumption) only [↓reduceIte,↓rK,rP,hI,Av FW] at hq
  simp (disch:=first | exact dD _ | assumption) only [↓reduceIte,↓rK,rO,ha,hv,h1,h2] at hq
  have hbad:(!isWord m.vars[i].name||decide (m.vars[i].init<m.vars[i].low)||decide (m.vars[i].high<m.vars[i].init)||!(decide (-999≤m.vars[i].low)&&decide (m.vars[i].low≤999))||!(decide (-999≤m.vars[i].high)&&decide (m.vars[i].high≤999)))=!m.vars[i].right:=by
   unfold Var.right
   grind
  rw [hbad] at hq
  cases hr2:m.vars[i].right with
  | false =>
   rw [hr2] at hq
   refine .inr ⟨.ret,[.bool false],σ',hq.symm,(by intro h;cases h),.inr ⟨rfl,rfl,?_⟩⟩
   rw [List.all_eq_false]
   exact ⟨_,List.getElem_mem hi,by simp [hr2]⟩
  | true =>
   rw [hr2] at hq
   refine .inl ⟨r - 1,_,σ',by omega,hq.symm.trans rfl,i+1,x',b',by omega,by simp,h0,by omega,?_,by omega,?_⟩
   ·rw [hrow];exact hL'
   ·rw [List.take_succ_eq_append_getElem hi,List.all_append,hall];simp [hr2]
 ·have he:i=m.vars.length:=by omega
  subst he
  rw [List.take_length] at hL hall
  refine .inr ⟨.exit 0,_,τ,?_,(by intro h;cases h),.inl ⟨rfl,x,b,rfl,hI,hn,hL,hb0,hall⟩⟩
  unfold t8_0
  simp (disch:=first | exact dD _ | assumption) only [↓reduceIte,↓rK,rP,hI]
theorem rA {call:SS.Call} (h:KD call) {k:Nat} (p:Bl) (hp:p.locs.length<1000000∧∀ s∈p.locs,s.length<1000000) (hk:p.locs.length<k) (a b c d:V) (q:Nat) (τ:St) (hq:τ.get q=some (.blk [.str p.name,(AA AC).enc p.locs] 43 0 false)) :
 Ak (t8_1 call k) k [a,b,c,d,.ptr q 0 0,.int .i64 0] τ=bif p.locs.all isWord then some (.exit 4,[a,b,c,d],τ) else some (.ret,[.bool false],τ):=by
 have h1:=h.isWord
 have hlen:=hp.1
 have hb: ∀ (i:Nat) (hi:i<p.locs.length),t8_1 call k [a,b,c,d,.ptr q 0 0,.int .i64 (i:Int)] τ=bif isWord p.locs[i] then some (.norm,[a,b,c,d,.ptr q 0 0,.int .i64 ((i+1:Nat):Int)],τ) else some (.ret,[.bool false],τ):=by
  intro i hi
  have hw:=hp.2 _ (List.getElem_mem hi)
  unfold t8_1
  simp (disch:=first | exact dD _ | assumption) only [↓reduceIte,↓rK,rP,hq,h1]
  cases isWord p.locs[i]<;>rfl
 obtain ⟨σ',g1,rfl⟩:=Ea (P:=t8_1 call k) (I:=fun σ=>σ=τ) (mk:=fun i=>[a,b,c,d,.ptr q 0 0,.int .i64 (i:Int)]) (fin:=[a,b,c,d]) (res:=[.bool false]) (id:=4) (n:=p.locs.length)
  (ok:=fun i=>if h:i<p.locs.length then isWord p.locs[i] else true)
  (by
    rintro i σ hi rfl ho
    simp only [dif_pos hi] at ho
    exact ⟨σ,by rw [hb i hi,ho];rfl,rfl⟩)
  (by
    rintro i σ hi rfl ho
    simp only [dif_pos hi] at ho
    exact ⟨σ,by rw [hb i hi,ho];rfl,rfl⟩)
  (by
    rintro σ rfl
    refine ⟨σ,?_,rfl⟩
    unfold t8_1
    simp (disch:=first | exact dD _ | assumption) only [↓reduceIte,↓rK,rP,hq])
  p.locs.length 0 k τ (by omega) hk rfl
 rw [show ((0:Nat):Int)=0 from rfl,JS (p:=isWord) (by intro i hi;simp only [dif_pos hi])] at g1
 exact g1
theorem rC {call:SS.Call} (h:KD call) {k:Nat} (m:AQ) (hm:Ao m) (hk:m.procs.length<k) (hk2: ∀ p∈m.procs,p.locs.length<k) (xv:V) (bv nv:Nat) (cv:List V) (τ0:St) (h0:τ0.get 0=some (.blk (V.cellsF (AU.enc m)) 30 0 false)) (hn0:0<τ0.n) (hv0:Lst τ0 9 1 xv nv cv bv) (hbv:bv≠0) :
 ∃ e vs' τ,Ak (t8_3 call k) k [.ptr 0 0 0,xv,.nilS,.int .i64 0] τ0=some (e,vs',τ)∧e≠.norm ∧
  ((e=.exit 2∧∃ x b bw,vs'=[.ptr 0 0 0,xv,x]∧τ.get 0=some (.blk (V.cellsF (AU.enc m)) 30 0 false)∧Lst τ 9 1 xv nv cv bw∧Lst τ 9 1 x m.procs.length (rows AC (m.procs.map (·.name))) b∧m.procs.all (·.right)=true) ∨
   (e=.ret∧vs'=[.bool false]∧m.procs.all (·.right)=false)):=by
 have h1:=h.isWord;have h2:=h.twice
 have hlen:=hm.procs
 refine Br (Inv:=fun r vs τ=>∃ (i:Nat) (x:V) (b bv:Nat),r+i=m.procs.length∧vs=[.ptr 0 0 0,xv,x,.int .i64 (i:Int)]∧τ.get 0=some (.blk (V.cellsF (AU.enc m)) 30 0 false)∧0<τ.n∧Lst τ 9 1 xv nv cv bv∧bv≠0∧Lst τ 9 1 x i (rows AC ((m.procs.take i).map (·.name))) b∧b≠0∧b≠bv∧(m.procs.take i).all (·.right)=true)
  (Q:=fun y=>(y.1=.exit 2∧∃ x b bw,y.2.1=[.ptr 0 0 0,xv,x]∧y.2.2.get 0=some (.blk (V.cellsF (AU.enc m)) 30 0 false)∧Lst y.2.2 9 1 xv nv cv bw∧Lst y.2.2 9 1 x m.procs.length (rows AC (m.procs.map (·.name))) b∧m.procs.all (·.right)=true) ∨
    (y.1=.ret∧y.2.1=[.bool false]∧m.procs.all (·.right)=false))
  ?_ m.procs.length k [.ptr 0 0 0,xv,.nilS,.int .i64 0] τ0 hk ⟨0,.nilS,bv+1,bv,by omega,rfl,h0,hn0,hv0,hbv,DI _ _ _ _,by omega,by omega,rfl⟩
 rintro r vs τ ⟨i,x,b,bv,hr,rfl,hI,hn,hV,hbv,hL,hb0,hbb,hall⟩
 by_cases hi:i<m.procs.length
 ·obtain ⟨hw1,hw2,hw3⟩:=hm.proc _ (List.getElem_mem hi)
  have hkk:=hk2 _ (List.getElem_mem hi)
  obtain ⟨b1,hL1,hb1⟩:=EI 5 hL
  obtain ⟨bv1,hV1,hbv1⟩:=EI 7 hV
  have far: ∀ c,c<τ.n→((τ.new (.blk [.str [],.nilS] 43 0 false)).put τ.n (.blk [.str m.procs[i].name,(AA AC).enc m.procs[i].locs] 43 0 false)).get c=τ.get c:=fun c hc=>by rw [St.zAG,if_neg (by omega),St.zAE,if_neg (by omega)]
  have hL2:=hL1.of (σ':=(τ.new (.blk [.str [],.nilS] 43 0 false)).put τ.n (.blk [.str m.procs[i].name,(AA AC).enc m.procs[i].locs] 43 0 false)) (fun hc=>far _ hc) (by rw [Au,AZ];omega)
  have hV2:=hV1.of (σ':=(τ.new (.blk [.str [],.nilS] 43 0 false)).put τ.n (.blk [.str m.procs[i].name,(AA AC).enc m.procs[i].locs] 43 0 false)) (fun hc=>far _ hc) (by rw [Au,AZ];omega)
  obtain ⟨x',b',σ',ha,hL',hn',hfr,hb',hbn'⟩:=DV (new:=[.str m.procs[i].name]) hL2 (by omega) rfl (by decide)
  have hV3:=hV2.of (σ':=σ') (fun hc=>hfr _ hc (by rw [Au,AZ] at hc;omega)) hn'
  rw [Au,AZ] at hn' hfr hb'
  have hv:σ'.get τ.n=some (.blk [.str m.procs[i].name,(AA AC).enc m.procs[i].locs] 43 0 false):=by
   rw [hfr τ.n (by omega) (by omega),St.zAG,if_pos rfl]
  have h0:σ'.get 0=some (.blk (V.cellsF (AU.enc m)) 30 0 false):=by
   rw [hfr 0 (by omega) (by omega),far 0 hn];exact hI
  have hrow:rows AC ((m.procs.take (i+1)).map (·.name))=rows AC ((m.procs.take i).map (·.name))++[.str m.procs[i].name]:=by
   rw [List.take_succ_eq_append_getElem hi,List.map_append];exact DL AC _ _
  have htw: ∀ σ,call 31 [(AA AC).enc m.procs[i].locs] σ=some (.bool (twice m.procs[i].locs),σ):=fun σ=>h2 _ _ σ (GZ (by rw [BI,(AA AC).zero];rfl)) hw2
  have hlo:=rA h m.procs[i] ⟨hw2,hw3⟩ hkk (.ptr 0 0 0) xv x' (.int .i64 (i:Int)) τ.n σ' hv
  obtain ⟨q,hq⟩: ∃ q,t8_3 call k [.ptr 0 0 0,xv,x,.int .i64 (i:Int)] τ=q:=⟨_,rfl⟩
  rw [hq]
  unfold t8_3 at hq
  simp (disch:=first | exact dD _ | assumption) only [↓reduceIte,↓rK,rP,hI,Av ER] at hq
  simp (disch:=first | exact dD _ | assumption) only [↓reduceIte,↓rK,rO,ha,hv,h1,htw,hlo] at hq
  cases hg:m.procs[i].right with
  | false =>
   have hq2:some (AEx.ret,[V.bool false],σ')=q:=by
    rw [←hq]
    unfold Bl.right at hg
    split
    ·rfl
    ·rename_i hC
     have:m.procs[i].locs.all isWord=false:=by
      cases ha2:m.procs[i].locs.all isWord with
      | false=>rfl
      | true=>exfalso;rw [ha2] at hg;grind
     rw [this];rfl
   refine .inr ⟨.ret,[.bool false],σ',hq2.symm,(by intro h;cases h),.inr ⟨rfl,rfl,?_⟩⟩
   rw [List.all_eq_false]
   exact ⟨_,List.getElem_mem hi,by simp [hg]⟩
  | true =>
   have hq2:some (AEx.norm,[.ptr 0 0 0,xv,x',.int .i64 (((i+1:Nat):Int))],σ')=q:=by
    rw [←hq]
    unfold Bl.right at hg
    split
    ·exfalso;grind
    ·have:m.procs[i].locs.all isWord=true:=by grind
     rw [this]
     simp only [cond_true]
     unfold t8_2
     simp (disch:=first | exact dD _ | assumption) only [↓rK,rP]
     rfl
   refine .inl ⟨r - 1,_,σ',by omega,hq2.symm,i+1,x',b',bv1,by omega,rfl,h0,by omega,hV3,by omega,?_,by omega,by omega,?_⟩
   ·rw [hrow];exact hL'
   ·rw [List.take_succ_eq_append_getElem hi,List.all_append,hall];simp [hg]
 ·have he:i=m.procs.length:=by omega
  subst he
  rw [List.take_length] at hL hall
  refine .inr ⟨.exit 2,_,τ,?_,(by intro h;cases h),.inl ⟨rfl,x,b,bv,rfl,hI,hV,hL,hall⟩⟩
  unfold t8_3
  simp (disch:=first | exact dD _ | assumption) only [↓reduceIte,↓rK,rP,hI]
theorem Pq: ∀ l:List Int,E6 l=true↔∀ i (h:i+1<l.length),l[i]<l[i+1]
 | []=>by simp [E6]
 | [a]=>by simp [E6]
 | a :: b :: r=>by
  show (decide (a<b)&&E6 (b :: r))=true↔_
  rw [Bool.and_eq_true,decide_eq_true_eq,Pq (b :: r)]
  constructor
  ·rintro ⟨h1,h2⟩ i hi
   cases i with
   | zero=>exact h1
   | succ i=>exact h2 i (by simpa using hi)
  ·intro h
   exact ⟨h 0 (by simp),fun i hi=>h (i+1) (by simpa using hi)⟩
theorem rE {call:SS.Call} (h:KD call) {k:Nat} (m:AQ) (hm:Ao m) (hk:m.trans.length<k) (τ:St) (hI:τ.get 0=some (.blk (V.cellsF (AU.enc m)) 30 0 false)) :
 Ak (t8_4 call k) k [.ptr 0 0 0,.int .i64 0] τ=bif m.trans.all m.rightT&&E6 (m.trans.map (·.id)) then some (.exit 6,[],τ) else some (.ret,[.bool false],τ):=by
 have h1:=h.rightT
 have hlen:=hm.trans
 have hb: ∀ (i:Nat) (hi:i<m.trans.length),t8_4 call k [.ptr 0 0 0,.int .i64 (i:Int)] τ=bif m.rightT m.trans[i]&&(decide (i=0)||decide ((m.trans[i - 1]'(by omega)).id<m.trans[i].id)) then some (.norm,[.ptr 0 0 0,.int .i64 ((i+1:Nat):Int)],τ) else some (.ret,[.bool false],τ):=by
  intro i hi
  have hw:=hm.tran _ (List.getElem_mem hi)
  unfold t8_4
  by_cases hz:i=0
  ·subst hz
   simp (disch:=first | exact dD _ | assumption) only [↓reduceIte,↓rK,rP,Nat.reduceAdd,hI,h1]
   cases m.rightT m.trans[0]<;>simp<;>rfl
  ·have e1:(i:Int) - 1=((i - 1:Nat):Int):=by omega
   simp (disch:=first | exact dD _ | assumption) only [↓reduceIte,↓rK,rP,Nat.reduceAdd,hI,h1,e1]
   by_cases hc:m.trans[i].id≤(m.trans[i - 1]'(by omega)).id
   ·have:¬(m.trans[i - 1]'(by omega)).id<m.trans[i].id:=by omega
    cases m.rightT m.trans[i]<;>simp [hc,this]
   ·have:(m.trans[i - 1]'(by omega)).id<m.trans[i].id:=by omega
    cases m.rightT m.trans[i]<;>simp [hc,this]
 obtain ⟨σ',g1,rfl⟩:=Ea (P:=t8_4 call k) (I:=fun σ=>σ=τ) (mk:=fun i=>[.ptr 0 0 0,.int .i64 (i:Int)]) (fin:=[]) (res:=[.bool false]) (id:=6) (n:=m.trans.length)
  (ok:=fun i=>if h:i<m.trans.length then m.rightT m.trans[i]&&(decide (i=0)||decide ((m.trans[i - 1]'(by omega)).id<m.trans[i].id)) else true)
  (by
    rintro i σ hi rfl ho
    simp only [dif_pos hi] at ho
    exact ⟨σ,by rw [hb i hi,ho];rfl,rfl⟩)
  (by
    rintro i σ hi rfl ho
    simp only [dif_pos hi] at ho
    exact ⟨σ,by rw [hb i hi,ho];rfl,rfl⟩)
  (by
    rintro σ rfl
    refine ⟨σ,?_,rfl⟩
    unfold t8_4
    simp (disch:=first | exact dD _ | assumption) only [↓reduceIte,↓rK,rP,hI])
  m.trans.length 0 k τ (by omega) hk rfl
 rw [show ((0:Nat):Int)=0 from rfl] at g1
 have key:DN (fun i=>if h:i<m.trans.length then m.rightT m.trans[i]&&(decide (i=0)||decide ((m.trans[i - 1]'(by omega)).id<m.trans[i].id)) else true) m.trans.length 0=(m.trans.all m.rightT&&E6 (m.trans.map (·.id))):=by
  rw [Bool.eq_iff_iff,Gy,Bool.and_eq_true,List.all_eq_true,Pq]
  constructor
  ·intro h
   refine ⟨fun t ht=>?_,fun i hi=>?_⟩
   ·obtain ⟨i,hi,rfl⟩:=List.getElem_of_mem ht
    have:=h i (by omega) (by omega)
    simp only [dif_pos hi,Bool.and_eq_true] at this
    exact this.1
   ·have hi2:i+1<m.trans.length:=by simpa using hi
    have:=h (i+1) (by omega) (by omega)
    simp only [dif_pos hi2,Bool.and_eq_true,Bool.or_eq_true,decide_eq_true_eq,Nat.add_sub_cancel] at this
    rcases this.2 with h | h
    ·omega
    ·simpa using h
  ·rintro ⟨h1,h2⟩ i _ hi
   have hi:i<m.trans.length:=by omega
   simp only [dif_pos hi,Bool.and_eq_true,Bool.or_eq_true,decide_eq_true_eq]
   refine ⟨h1 _ (List.getElem_mem hi),?_⟩
   cases i with
   | zero=>exact .inl rfl
   | succ i=>exact .inr (by have:=h2 i (by simpa using hi);simpa using this)
 rw [key] at g1
 exact g1
theorem qY {call:SS.Call} (h:KD call) {k:Nat} (m:AQ) (hm:Ao m) (hk1:m.vars.length<k) (hk2:m.procs.length<k) (hk3: ∀ p∈m.procs,p.locs.length<k) (hk4:m.trans.length<k) :
 ∃ σ',t8 call k [AU.enc m] .empty=some (.bool m.right,σ'):=by
 have h2:=h.twice
 obtain ⟨r,hr⟩: ∃ r,t8 call k [AU.enc m] .empty=r:=⟨_,rfl⟩
 rw [hr]
 unfold t8 at hr
 simp only [Ej,ES,Gr,BG] at hr
 obtain ⟨e,vs',τ,g1,_,g2⟩:=rF h m hm hk1
 rw [g1] at hr
 rcases g2.symm with ⟨rfl,rfl,hv⟩ | ⟨rfl,x,b,rfl,hI,hn,hL,hb,hv⟩
 ·simp only [↓rK,rO,AL] at hr
  exact ⟨_,hr.symm.trans (congrArg (fun b=>some (V.bool b,_)) (by unfold AQ.right;rw [hv];rfl))⟩
 simp only [↓rK] at hr
 unfold t8_7 at hr
 obtain ⟨e,vs',τ2,g3,_,g4⟩:=rC h m hm hk2 hk3 x b _ _ τ hI hn hL hb
 simp only [NR,ES,g3] at hr
 rcases g4.symm with ⟨rfl,rfl,hp⟩ | ⟨rfl,y,b2,b3,rfl,hI,hL2,hL3,hp⟩
 ·simp only [↓rK,rO,AL] at hr
  exact ⟨_,hr.symm.trans (congrArg (fun b=>some (V.bool b,_)) (by unfold AQ.right;rw [hv,hp];rfl))⟩
 simp only [↓rK] at hr
 unfold t8_6 at hr
 have e1: ∀ (K:Int→Option Res),True:=fun _=>trivial
 have hl1:m.vars.length=(m.vars.map (·.name)).length:=by simp
 have hl2:m.procs.length=(m.procs.map (·.name)).length:=by simp
 have t1:=h2 x (m.vars.map (·.name)) τ2 (Jv (by rw [←hl1];exact hL2)) (by rw [←hl1];exact hm.vars)
 have t2:=h2 y (m.procs.map (·.name)) τ2 (Jv (by rw [←hl2];exact hL3)) (by rw [←hl2];exact hm.procs)
 have a1:=fun K=>hL2.len (R:=AEx×List V×St) K
 have a2:=fun K=>hL3.len (R:=AEx×List V×St) K
 have a3:=fun K=>hL2.len (R:=Bool×St) K
 have a4:=fun K=>hL3.len (R:=Bool×St) K
 have g5:=rE h m hm hk4 τ2 hI
 simp only [↓reduceIte,↓rK,rO,hI,a1,a4,t1,t2,g5] at hr
 unfold t8_5 at hr
 cases ha:(m.trans.all m.rightT&&E6 (m.trans.map (·.id))) with
 | false =>
  rw [ha] at hr
  have:m.right=false:=by unfold AQ.right;rw [ha];simp
  rw [this]
  split at hr<;>simp only [rO,AL,cond_false] at hr<;>exact ⟨_,hr.symm⟩
 | true =>
  rw [ha] at hr
  split at hr
  ·rename_i hC
   simp only [rO,AL] at hr
   exact ⟨_,hr.symm.trans (congrArg (fun b=>some (V.bool b,_)) (by unfold AQ.right;rw [ha,hv,hp];grind))⟩
  ·rename_i hC
   simp only [↓rK,rO,AL,cond_true] at hr
   exact ⟨_,hr.symm.trans (congrArg (fun b=>some (V.bool b,_)) (by unfold AQ.right;rw [ha,hv,hp];grind))⟩
theorem QU {τ:St} {v:V} {l:List B} {b:Nat} (h:Lst τ 9 1 v l.length (rows AC l) b):Bj env τ v ((AA AC).enc l):=by
 have:=Jv h
 have hk:v.kind≠0:=by
  rcases h with ⟨rfl,_⟩ | ⟨_,rfl,_⟩<;>intro h<;>cases h
 have hb:Nat.beq v.kind 0=false:=by rw [Fw];exact decide_eq_false hk
 refine .inr ⟨hk,?_⟩
 have e:Bb env τ [v]=(match (bif Nat.beq v.kind 0 then some v else frz env τ DP v),Bb env τ [] with | some x,some xs=>some (x :: xs) | _,_=>none):=rfl
 rw [e,hb] at this
 simp only [cond_false] at this
 cases hf:frz env τ DP v with
 | none=>rw [hf] at this;cases this
 | some x=>rw [hf] at this;injection this with this;injection this with this _;rw [this]
theorem uR (s:B) (i j:Nat) (h:i≤j):(s.drop i).take (j - i)++s.drop j=s.drop i:=by
 have:=List.take_append_drop (j - i) (s.drop i)
 rw [List.drop_drop] at this
 rw [show i+(j - i)=j by omega] at this
 exact this
theorem Zj {call:SS.Call} {k:Nat} (s:B) (c:UInt8) (hs:s.length<1000000) (hk:s.length<k) :
 ∃ v τ b,t10 call k [.str s,.int .u8 (by8 c)] .empty=some (v,τ)∧Lst τ 9 1 v (cut c s).length (rows AC (cut c s)) b:=by
 obtain ⟨e,vs',τ,g1,_,g2⟩:=Br (P:=t10_1 call k) (Inv:=fun r vs τ=>∃ (i fr:Nat) (x:V) (b:Nat) (done:List B),r+i=s.length∧fr≤i∧vs=[.str s,.int .u8 (by8 c),x,.int .i64 (fr:Int),.int .i64 (i:Int)]∧Lst τ 9 1 x done.length (rows AC done) b∧done.length≤fr∧cut c s=done++cut c (s.drop fr)∧∀ d∈(s.drop fr).take (i - fr),d≠c)
  (Q:=fun y=>y.1=.exit 0∧∃ (fr:Nat) (x:V) (b:Nat) (done:List B),y.2.1=[.str s,x,.int .i64 (fr:Int)]∧fr≤s.length∧done.length≤fr∧Lst y.2.2 9 1 x done.length (rows AC done) b∧cut c s=done++[s.drop fr])
  (by
    rintro r vs τ ⟨i,fr,x,b,done,hr,hfr,rfl,hL,hdl,hcut,hcl⟩
    by_cases hi:i<s.length
    ·by_cases hc:s[i]=c
     ·have hbc:by8 s[i]=by8 c:=by rw [hc]
      obtain ⟨x',b',σ',ha,hL',_⟩:=DV (new:=[.str ((s.drop fr).take (i - fr))]) hL (by omega) rfl (by decide)
      obtain ⟨q,hq⟩: ∃ q,t10_1 call k [.str s,.int .u8 (by8 c),x,.int .i64 (fr:Int),.int .i64 (i:Int)] τ=q:=⟨_,rfl⟩
      rw [hq]
      unfold t10_1 t10_0 at hq
      simp (disch:=first | exact dD _ | assumption) only [↓reduceIte,↓rK,rP,hbc,ha] at hq
      refine .inl ⟨r - 1,_,_,by omega,hq.symm,i+1,i+1,x',b',done++[(s.drop fr).take (i - fr)],by omega,by omega,rfl,?_,?_,?_,?_⟩
      ·rw [DL,List.length_append];exact hL'
      ·rw [List.length_append];simp;omega
      ·rw [hcut,List.append_assoc]
       congr 1
       have:s.drop fr=(s.drop fr).take (i - fr)++c :: s.drop (i+1):=by
        rw [←hc,←List.drop_eq_getElem_cons hi,uR s fr i hfr]
       conv=>lhs;rw [this]
       rw [OM c _ hcl];rfl
      ·simp
     ·have hbc:¬by8 s[i]=by8 c:=by
       intro h
       exact hc (UInt8.toNat_inj.1 (Int.ofNat.inj h))
      obtain ⟨q,hq⟩: ∃ q,t10_1 call k [.str s,.int .u8 (by8 c),x,.int .i64 (fr:Int),.int .i64 (i:Int)] τ=q:=⟨_,rfl⟩
      rw [hq]
      unfold t10_1 t10_0 at hq
      simp (disch:=first | exact dD _ | assumption) only [↓reduceIte,↓rK,rP,hbc] at hq
      refine .inl ⟨r - 1,_,_,by omega,hq.symm,i+1,fr,x,b,done,by omega,by omega,rfl,hL,hdl,hcut,?_⟩
      intro d hd
      rw [show i+1 - fr=(i - fr)+1 by omega,List.take_succ_eq_append_getElem (by rw [List.length_drop];omega)] at hd
      rcases List.mem_append.1 hd with hd | hd
      ·exact hcl d hd
      ·simp only [List.mem_singleton] at hd
       rw [hd,List.getElem_drop]
       simp only [show fr+(i - fr)=i by omega]
       exact hc
    ·have he:i=s.length:=by omega
     subst he
     refine .inr ⟨.exit 0,[.str s,x,.int .i64 (fr:Int)],τ,?_,(by intro h;cases h),rfl,fr,x,b,done,rfl,hfr,hdl,hL,?_⟩
     ·unfold t10_1
      simp (disch:=first | exact dD _ | assumption) only [↓reduceIte,↓rK,rP]
     ·rw [hcut]
      congr 1
      refine OO c _ fun d hd=>hcl d ?_
      rw [List.take_of_length_le (by rw [List.length_drop];omega)]
      exact hd)
  s.length k [.str s,.int .u8 (by8 c),.nilS,.int .i64 0,.int .i64 0] .empty hk ⟨0,0,.nilS,0,[],by omega,by omega,rfl,DI _ _ _ _,by simp,by simp,by simp⟩
 obtain ⟨e1,fr,x,b,done,e2,hfr,hdl,hL,hcut⟩:=g2
 simp only at e1 e2 hL
 subst e1 e2
 obtain ⟨x',b',σ',ha,hL',_⟩:=DV (new:=[.str (s.drop fr)]) hL (by omega) rfl (by decide)
 refine ⟨x',σ',b',?_,?_⟩
 ·unfold t10
  simp only [H9,ES,g1]
  unfold t10_2
  simp (disch:=first | exact dD _ | assumption) only [↓rK,rP,AL,ha]
 ·rw [hcut,DL,List.length_append]
  exact hL'
theorem Gz (c:UInt8): ∀ s:B,(cut c s).length≤s.length+1
 | []=>by simp [cut]
 | d :: r=>by
  have:=Gz c r
  rw [IW]
  split
  ·simp;omega
  ·split
   ·rename_i h t e;rw [e] at this;simp at this ⊢;omega
   ·simp
theorem wH {call:SS.Call} (h1: ∀ (s:B) (c:UInt8) τ,s.length<1000000→call 10 [.str s,.int .u8 (by8 c)] τ=some ((AA AC).enc (cut c s),τ)) {k:Nat} (s:B) (hs:s.length<999999) (hk:s.length+1<k) :
 ∃ v τ b,t47 call k [.str s] .empty=some (v,τ)∧Lst τ 9 1 v (BC s).length (rows AC (BC s)) b:=by
 have hlen:=Gz 32 s
 obtain ⟨e,vs',τ,g1,_,g2⟩:=Br (P:=t47_1 call k) (Inv:=fun r vs τ=>∃ (i:Nat) (x:V) (b:Nat) (done:List B),r+i=(cut 32 s).length∧vs=[x,(AA AC).enc (cut 32 s),.int .i64 (i:Int)]∧Lst τ 9 1 x done.length (rows AC done) b∧done=((cut 32 s).take i).filter (fun w=>decide (w≠[]))∧done.length≤i)
  (Q:=fun y=>y.1=.exit 0∧∃ (x:V) (b:Nat),y.2.1=[x]∧Lst y.2.2 9 1 x (BC s).length (rows AC (BC s)) b)
  (by
    rintro r vs τ ⟨i,x,b,done,hr,rfl,hL,hd,hdl⟩
    by_cases hi:i<(cut 32 s).length
    ·have htk:(cut 32 s).take (i+1)=(cut 32 s).take i++[(cut 32 s)[i]]:=List.take_succ_eq_append_getElem hi
     obtain ⟨x',b',σ',ha,hL',_⟩:=DV (new:=[.str (cut 32 s)[i]]) hL (by omega) rfl (by decide)
     obtain ⟨q,hq⟩: ∃ q,t47_1 call k [x,(AA AC).enc (cut 32 s),.int .i64 (i:Int)] τ=q:=⟨_,rfl⟩
     rw [hq]
     unfold t47_1 t47_0 at hq
     by_cases hw:(cut 32 s)[i]=[]
     ·simp (disch:=first | exact dD _ | assumption) only [↓reduceIte,↓rK,rP,hw] at hq
      refine .inl ⟨r - 1,_,_,by omega,hq.symm,i+1,x,b,done,by omega,rfl,hL,?_,by omega⟩
      rw [htk,List.filter_append,←hd]
      simp [hw]
     ·simp (disch:=first | exact dD _ | assumption) only [↓reduceIte,↓rK,rP,hw,ha] at hq
      refine .inl ⟨r - 1,_,_,by omega,hq.symm,i+1,x',b',done++[(cut 32 s)[i]],by omega,rfl,?_,?_,?_⟩
      ·rw [DL,List.length_append];exact hL'
      ·rw [htk,List.filter_append,←hd]
       simp [hw]
      ·rw [List.length_append];simp;omega
    ·have he:i=(cut 32 s).length:=by omega
     subst he
     rw [List.take_length] at hd
     refine .inr ⟨.exit 0,[x],τ,?_,(by intro h;cases h),rfl,x,b,rfl,?_⟩
     ·unfold t47_1
      simp (disch:=first | exact dD _ | assumption) only [↓reduceIte,↓rK,rP]
     ·show Lst τ _ 1 x (BC s).length (rows AC (BC s)) b
      unfold BC;rw [←hd];exact hL)
  (cut 32 s).length k [.nilS,(AA AC).enc (cut 32 s),.int .i64 0] .empty (by omega) ⟨0,.nilS,0,[],by omega,rfl,DI _ _ _ _,by simp,by simp⟩
 obtain ⟨e1,x,b,e2,hL⟩:=g2
 simp only at e1 e2 hL
 subst e1 e2
 refine ⟨x,τ,b,?_,hL⟩
 have hc:=h1 s 32
 have h32:by8 32=32:=rfl
 rw [h32] at hc
 unfold t47
 simp (disch:=first | exact dD _ | assumption) only [↓rK,rP,hc,g1]
 unfold t47_2
 simp (disch:=first | exact dD _ | assumption) only [↓rK,rP,AL]
theorem Ql (s:B) (c:UInt8):Dp (s++[c])=10*Dp s+(by8 c - 48):=by simp [Dp]
theorem YW {call:SS.Call} (h1: ∀ c τ,call 54 [.int .u8 c] τ=some (.bool (Bq c),τ)) {k:Nat} (s:B) (hs:s.length<1000000) (hk:s.length<k) (τ:St) :
 Ak (t37_0 call k) k [.str s,.int .i64 0,.int .i64 0] τ=if (s.all (fun c=>Bq (by8 c))&&decide (s.length≤3))=true then some (.exit 0,[.str s,.int .i64 (Dp s)],τ) else some (.ret,[.int .i64 0,.bool false],τ):=by
 obtain ⟨e,vs',σ,g1,_,g2⟩:=Br (P:=t37_0 call k) (Inv:=fun r vs σ=>∃ (i:Nat),r+i=s.length∧σ=τ∧vs=[.str s,.int .i64 (Dp (s.take i)),.int .i64 (i:Int)]∧i≤3∧0≤Dp (s.take i)∧Dp (s.take i)≤10 ^ i - 1∧(s.take i).all (fun c=>Bq (by8 c))=true)
  (Q:=fun y=>y.2.2=τ∧((y.1=.exit 0∧y.2.1=[.str s,.int .i64 (Dp s)]∧s.all (fun c=>Bq (by8 c))=true∧s.length≤3)∨(y.1=.ret∧y.2.1=[.int .i64 0,.bool false]∧(s.all (fun c=>Bq (by8 c))=false∨3<s.length))))
  (by
    rintro r vs σ ⟨i,hr,rfl,rfl,h3,hv0,hv1,hall⟩
    by_cases hi:i<s.length
    ·have htk:s.take (i+1)=s.take i++[s[i]]:=List.take_succ_eq_append_getElem hi
     obtain ⟨q,hq⟩: ∃ q,t37_0 call k [.str s,.int .i64 (Dp (s.take i)),.int .i64 (i:Int)] σ=q:=⟨_,rfl⟩
     rw [hq]
     unfold t37_0 at hq
     have hp:(10:Int) ^ i≤1000:=by
      have:i=0∨i=1∨i=2∨i=3:=by omega
      rcases this with rfl | rfl | rfl | rfl<;>decide
     cases hd:Bq (by8 s[i]) with
     | false =>
      simp (disch:=first | exact dD _ | assumption) only [↓reduceIte,↓rK,rP,h1,hd] at hq
      refine .inr ⟨_,_,_,hq.symm,(by intro h;cases h),rfl,.inr ⟨rfl,rfl,.inl ?_⟩⟩
      rw [List.all_eq_false]
      exact ⟨_,List.getElem_mem hi,by simp [hd]⟩
     | true =>
      have hd':=hd
      unfold Bq at hd'
      simp only [Bool.and_eq_true,decide_eq_true_eq] at hd'
      by_cases h2:2<i
      ·simp (disch:=first | exact dD _ | assumption) only [↓reduceIte,↓rK,rP,h1,hd] at hq
       refine .inr ⟨_,_,_,hq.symm,(by intro h;cases h),rfl,.inr ⟨rfl,rfl,.inr (by omega)⟩⟩
      ·simp (disch:=first | exact dD _ | assumption) only [↓reduceIte,↓rK,rP,h1,hd] at hq
       refine .inl ⟨r - 1,_,_,by omega,hq.symm,i+1,by omega,rfl,?_,by omega,?_,?_,?_⟩
       ·rw [htk,Ql];rfl
       ·rw [htk,Ql];omega
       ·rw [htk,Ql,Int.pow_succ];omega
       ·rw [htk,List.all_append,hall];simp [hd]
    ·have he:i=s.length:=by omega
     subst he
     rw [List.take_length] at hall
     rw [List.take_length]
     refine .inr ⟨.exit 0,[.str s,.int .i64 (Dp s)],σ,?_,(by intro h;cases h),rfl,.inl ⟨rfl,rfl,hall,h3⟩⟩
     unfold t37_0
     simp (disch:=first | exact dD _ | assumption) only [↓reduceIte,↓rK,rP])
  s.length k [.str s,.int .i64 0,.int .i64 0] τ hk ⟨0,by omega,rfl,rfl,by omega,by simp [Dp],by simp [Dp],by simp⟩
 obtain ⟨e0,g2⟩:=g2
 simp only at e0 g2
 subst e0
 rw [g1]
 rcases g2 with ⟨e1,e2,e3,e4⟩ | ⟨e1,e2,e3⟩
 ·subst e1 e2;rw [if_pos (by simp only [e3,e4,decide_true,Bool.and_self])]
 ·subst e1 e2
  rw [if_neg]
  intro h
  rw [Bool.and_eq_true,decide_eq_true_eq] at h
  rcases e3 with e3 | e3
  ·rw [e3] at h;cases h.1
  ·omega
theorem Nq {call:SS.Call} (h1: ∀ c τ,call 54 [.int .u8 c] τ=some (.bool (Bq c),τ)) {k:Nat} (s:B) (hs:s.length<1000000) (hk:s.length<k) (τ:St) :
 t37 call k [.str s,.bool false] τ=some (.tup [.int .i64 (Bz s).1,.bool (Bz s).2],τ):=by
 have g:=YW h1 s hs hk τ
 unfold t37
 simp (disch:=first | exact dD _ | assumption) only [↓reduceIte,↓rK,rP,g]
 unfold Bz
 split
 ·unfold t37_1
  simp (disch:=first | exact dD _ | assumption) only [↓rK,rP,AL]
  have a1:decide ((0:Int)<(s.length:Int))=decide (0<s.length):=decide_eq_decide.2 (by omega)
  rw [a1]
 ·simp (disch:=first | exact dD _ | assumption) only [↓rK,rP,AL]
theorem YV (s:B): -999≤(Bz s).1∧(Bz s).1≤999∧0≤(Bz s).1:=by
 unfold Bz
 split
 ·rename_i h
  rw [Bool.and_eq_true,decide_eq_true_eq] at h
  obtain ⟨h1,h2⟩:=h
  have dg: ∀ c∈s,48≤by8 c∧by8 c≤57:=fun c hc=>by
   have:=List.all_eq_true.1 h1 c hc
   unfold Bq at this
   simpa using this
  match s,h2,dg with
  | [],_,_=>simp [Dp]
  | [a],_,dg=>have:=dg a (by simp);simp [Dp];omega
  | [a,b],_,dg=>have:=dg a (by simp);have:=dg b (by simp);simp [Dp];omega
  | [a,b,c],_,dg=>have:=dg a (by simp);have:=dg b (by simp);have:=dg c (by simp);simp [Dp];omega
  | _ :: _ :: _ :: _ :: _,h2,_=>simp at h2
 ·simp
theorem YZ {call:SS.Call} (h1: ∀ c τ,call 54 [.int .u8 c] τ=some (.bool (Bq c),τ)) {k:Nat} (h2: ∀ (s:B) τ,s.length<1000000→call 37 [.str s,.bool false] τ=some (.tup [.int .i64 (Bz s).1,.bool (Bz s).2],τ)) (s:B) (sg:Bool) (hs:s.length<1000000) (hk:s.length<k) (τ:St) :
 t37 call k [.str s,.bool sg] τ=some (.tup [.int .i64 (CE s sg).1,.bool (CE s sg).2],τ):=by
 cases sg with
 | false =>
  rw [Nq h1 s hs hk]
  have:CE s false=Bz s:=by
   unfold CE
   split<;>simp
  rw [this]
 | true =>
  have hf:=Nq h1 s hs hk τ
  unfold t37 at hf ⊢
  simp (disch:=first | exact dD _ | assumption) only [↓reduceIte,↓rK,rP] at hf ⊢
  match s,hs,hf with
  | [],_,hf=>simp (disch:=first | exact dD _ | assumption) only [↓reduceIte,rP] at hf ⊢;exact hf
  | [c],_,hf=>simp (disch:=first | exact dD _ | assumption) only [↓reduceIte,↓rK,rP] at hf ⊢;exact hf
  | c :: d :: r,hs,hf =>
   have hlt:((1:Int)<((c :: d :: r).length:Int)):=by simp;omega
   simp (disch:=first | exact dD _ | assumption) only [↓rK,rP] at hf ⊢
   have hl:(d :: r).length<1000000:=by simp at hs ⊢;omega
   have hl1:1≤(c :: d :: r).length:=by simp
   by_cases hc:c=45
   ·subst hc
    have e2:by8 45=45:=rfl
    have ev:CE (45 :: d :: r) true=(-(Bz (d :: r)).1,(Bz (d :: r)).2):=by simp [CE]
    have hb:=YV (d :: r)
    have h2':=h2 (d :: r) τ hl
    rw [e2,ev]
    simp (disch:=first | exact dD _ | assumption) only [↓reduceIte,↓rK,rP,AL,h2']
    simp
   ·have e2:¬by8 c=45:=by
     intro h
     exact hc (UInt8.toNat_inj.1 (Int.ofNat.inj h))
    have ev:CE (c :: d :: r) true=Bz (c :: d :: r):=by simp [CE,hc]
    rw [ev]
    simp (disch:=first | exact dD _ | assumption) only [↓reduceIte,rP,e2]
    exact hf
theorem aC {call:SS.Call} {k:Nat} (s:B) (n:Int) (hs:s.length<1000000) (hk:s.length<k) (τ:St) :
 Ak (t50_0 call k) k [.str s,.int .i64 n] τ=some (.exit 2,[.str (s.dropWhile (fun c=>c==32)),.int .i64 n],τ):=by
 obtain ⟨e,vs',σ,g1,_,g2⟩:=Br (P:=t50_0 call k) (Inv:=fun r vs σ=>∃ t:B,r=t.length∧σ=τ∧vs=[.str t,.int .i64 n]∧t.dropWhile (fun c=>c==32)=s.dropWhile (fun c=>c==32)∧t.length<1000000)
  (Q:=fun y=>y=(.exit 2,[.str (s.dropWhile (fun c=>c==32)),.int .i64 n],τ))
  (by
    rintro r vs σ ⟨t,rfl,rfl,rfl,ht,hl⟩
    cases t with
    | nil =>
     refine .inr ⟨.exit 2,[.str [],.int .i64 n],σ,?_,(by intro h;cases h),?_⟩
     ·unfold t50_0
      simp (disch:=first | exact dD _ | assumption) only [↓reduceIte,↓rK,rP]
     ·rw [←ht];rfl
    | cons c t =>
     have hl0:(0:Int)<((c :: t).length:Int):=by simp only [List.length_cons];omega
     have hl1:1≤(c :: t).length:=by simp
     by_cases hc:c=32
     ·subst hc
      have e2:by8 32=32:=rfl
      refine .inl ⟨t.length,[.str t,.int .i64 n],σ,by simp,?_,t,rfl,rfl,rfl,?_,by simp at hl;omega⟩
      ·unfold t50_0
       simp (disch:=first | exact dD _ | assumption) only [↓reduceIte,↓rK,rP,e2]
      ·rw [←ht];rfl
     ·have e2:¬by8 c=32:=fun h=>hc (UInt8.toNat_inj.1 (Int.ofNat.inj h))
      have e3:(c :: t).dropWhile (fun c=>c==32)=c :: t:=by simp [hc]
      refine .inr ⟨.exit 2,[.str (c :: t),.int .i64 n],σ,?_,(by intro h;cases h),?_⟩
      ·unfold t50_0
       simp (disch:=first | exact dD _ | assumption) only [↓reduceIte,↓rK,rP,e2]
      ·rw [←ht,e3])
  s.length k [.str s,.int .i64 n] τ hk ⟨s,rfl,rfl,rfl,rfl,hs⟩
 rw [g1,g2]
theorem aD {call:SS.Call} {k:Nat} (s:B) (n:Int) (hs:s.length<1000000) (hk:s.length<k) (τ:St) :
 Ak (t50_1 call k) k [.str s,.int .i64 n] τ=some (.exit 4,[.str (s.dropWhile (fun c=>!(c==32))),.int .i64 n],τ):=by
 obtain ⟨e,vs',σ,g1,_,g2⟩:=Br (P:=t50_1 call k) (Inv:=fun r vs σ=>∃ t:B,r=t.length∧σ=τ∧vs=[.str t,.int .i64 n]∧t.dropWhile (fun c=>!(c==32))=s.dropWhile (fun c=>!(c==32))∧t.length<1000000)
  (Q:=fun y=>y=(.exit 4,[.str (s.dropWhile (fun c=>!(c==32))),.int .i64 n],τ))
  (by
    rintro r vs σ ⟨t,rfl,rfl,rfl,ht,hl⟩
    cases t with
    | nil =>
     refine .inr ⟨.exit 4,[.str [],.int .i64 n],σ,?_,(by intro h;cases h),?_⟩
     ·unfold t50_1
      simp (disch:=first | exact dD _ | assumption) only [↓reduceIte,↓rK,rP]
     ·rw [←ht];rfl
    | cons c t =>
     have hl0:(0:Int)<((c :: t).length:Int):=by simp only [List.length_cons];omega
     have hl1:1≤(c :: t).length:=by simp
     by_cases hc:c=32
     ·subst hc
      have e2:by8 32=32:=rfl
      have e3:(32 :: t).dropWhile (fun c=>!(c==32))=32 :: t:=by simp
      refine .inr ⟨.exit 4,[.str (32 :: t),.int .i64 n],σ,?_,(by intro h;cases h),?_⟩
      ·unfold t50_1
       simp (disch:=first | exact dD _ | assumption) only [↓reduceIte,↓rK,rP,e2]
      ·rw [←ht,e3]
     ·have e2:¬by8 c=32:=fun h=>hc (UInt8.toNat_inj.1 (Int.ofNat.inj h))
      refine .inl ⟨t.length,[.str t,.int .i64 n],σ,by simp,?_,t,rfl,rfl,rfl,?_,by simp at hl;omega⟩
      ·unfold t50_1
       simp (disch:=first | exact dD _ | assumption) only [↓reduceIte,↓rK,rP,e2]
      ·rw [←ht];simp [hc])
  s.length k [.str s,.int .i64 n] τ hk ⟨s,rfl,rfl,rfl,rfl,hs⟩
 rw [g1,g2]
theorem KP (p:UInt8→Bool): ∀ s:B,(s.dropWhile p).length≤s.length
 | []=>by simp
 | c :: r=>by
  have:=KP p r
  unfold List.dropWhile
  split<;>simp<;>omega
theorem sI {call:SS.Call} {k:Nat} (s:B) (n:Nat) (hs:s.length<1000000) (hn:n<1000000) (hk:s.length<k) (hkn:n<k) (τ:St) :
 t50 call k [.str s,.int .i64 (n:Int)] τ=some (.str (CY s n),τ):=by
 obtain ⟨e,vs',σ,g1,_,g2⟩:=Br (P:=t50_4 call k) (Inv:=fun r vs σ=>∃ t:B,σ=τ∧vs=[.str t,.int .i64 (r:Int)]∧CY t r=CY s n∧t.length≤s.length∧r<1000000)
  (Q:=fun y=>y=(.exit 0,[.str (CY s n)],τ))
  (by
    rintro r vs σ ⟨t,rfl,rfl,ht,hl,hr⟩
    cases r with
    | zero =>
     refine .inr ⟨.exit 0,[.str t],σ,?_,(by intro h;cases h),?_⟩
     ·unfold t50_4
      simp (disch:=first | exact dD _ | assumption) only [↓reduceIte,↓rK,rP]
     ·rw [←ht];rfl
    | succ r =>
     have d1:=aC (call:=call) (k:=k) t ((r+1:Nat):Int) (by omega) (by omega) σ
     have l1:=KP (fun c=>c==32) t
     have d2:=aD (call:=call) (k:=k) (t.dropWhile (fun c=>c==32)) ((r+1:Nat):Int) (by omega) (by omega) σ
     have l2:=KP (fun c=>!(c==32)) (t.dropWhile (fun c=>c==32))
     refine .inl ⟨r,[.str ((t.dropWhile (fun c=>c==32)).dropWhile (fun c=>!(c==32))),.int .i64 (r:Int)],σ,by omega,?_,_,rfl,rfl,ht,by omega,by omega⟩
     have h0:((0:Int)<((r+1:Nat):Int)):=by omega
     have hsub:(((r+1:Nat):Int) - 1)=(r:Int):=by omega
     unfold t50_4 t50_3 t50_2
     simp (disch:=first | exact dD _ | assumption) only [↓reduceIte,↓rK,rP,h0,d1,d2,hsub])
  n k [.str s,.int .i64 (n:Int)] τ hkn ⟨s,rfl,rfl,rfl,Nat.le_refl _,hn⟩
 unfold t50
 simp only [H9,g1,g2]
 unfold t50_5
 simp (disch:=first | exact dD _ | assumption) only [↓rK,rP,AL]
def parseVar:List B→Var×Bool
 | [a,b,c,d]=>(⟨a,(CE b true).1,(CE c true).1,(CE d true).1⟩,(CE b true).2&&((CE c true).2&&(CE d true).2))
 | _=>(⟨[],0,0,0⟩,false)
theorem o8 {call:SS.Call} {k:Nat} (h1: ∀ (s:B) (g:Bool) τ,s.length<1000000→call 37 [.str s,.bool g] τ=some (.tup [.int .i64 (CE s g).1,.bool (CE s g).2],τ)) (l:List B) (hl:l.length<1000000) (hs: ∀ s∈l,s.length<1000000) :
 ∃ σ,t48 call k [(AA AC).enc l] .empty=some (.tup [BF.enc (parseVar l).1,.bool (parseVar l).2],σ):=by
 obtain ⟨r,hr⟩: ∃ r,t48 call k [(AA AC).enc l] .empty=r:=⟨_,rfl⟩
 rw [hr]
 unfold t48 at hr
 by_cases h4:l.length=4
 ·have h4':((l.length:Int)=4):=by omega
  have i0: ∀ τ (K:V→Option (AEx×List V×St)),Ab 1 ((AA AC).enc l) 0 0 τ K=K (.str l[0]):=fun τ K=>Ei (n:=0) (by omega) K
  have i1: ∀ τ (K:V→Option (AEx×List V×St)),Ab 1 ((AA AC).enc l) 1 0 τ K=K (.str l[1]):=fun τ K=>Ei (n:=1) (by omega) K
  have i2: ∀ τ (K:V→Option (AEx×List V×St)),Ab 1 ((AA AC).enc l) 2 0 τ K=K (.str l[2]):=fun τ K=>Ei (n:=2) (by omega) K
  have i3: ∀ τ (K:V→Option (AEx×List V×St)),Ab 1 ((AA AC).enc l) 3 0 τ K=K (.str l[3]):=fun τ K=>Ei (n:=3) (by omega) K
  have s0:=hs _ (List.getElem_mem (show 0<l.length by omega))
  have s1:=hs _ (List.getElem_mem (show 1<l.length by omega))
  have s2:=hs _ (List.getElem_mem (show 2<l.length by omega))
  have s3:=hs _ (List.getElem_mem (show 3<l.length by omega))
  simp (disch:=first | exact dD _ | assumption) only [↓reduceIte,↓rK,rP,AL,Nat.reduceAdd,h4',i0,i1,i2,i3,h1,↓BB,BB,Av FW] at hr
  have hv:parseVar l=(⟨l[0],(CE l[1] true).1,(CE l[2] true).1,(CE l[3] true).1⟩,(CE l[1] true).2&&((CE l[2] true).2&&(CE l[3] true).2)):=by
   match l,h4 with
   | [a,b,c,d],_=>rfl
  rw [hv]
  exact ⟨_,hr.symm.trans (congrArg (fun b=>some (V.tup [_,V.bool b],_)) (Bool.and_assoc _ _ _))⟩
 ·have h4':¬((l.length:Int)=4):=by omega
  simp (disch:=first | exact dD _ | assumption) only [↓reduceIte,↓rK,rP,AL,Nat.reduceAdd,h4',Av FW] at hr
  have:parseVar l=(⟨[],0,0,0⟩,false):=by
   unfold parseVar
   split
   ·simp at h4
   ·rfl
  rw [this];exact ⟨_,hr.symm⟩
theorem Ll: ∀ d,d<10→([48,49,50,51,52,53,54,55,56,57].drop d).take (d+1 - d)=[UInt8.ofNat (48+d)]:=by decide
theorem pR {call:SS.Call} {k:Nat} (n:Nat) (hn:n<10000000000000000000) (h: ∀ m τ,m<n→call 89 [.int .u64 ((m:Nat):Int)] τ=some (.str (Bg m),τ)) (hlen:n<4000000000) (τ:St) :
 t89 call k [.int .u64 (n:Int)] τ=some (.str (Bg n),τ):=by
 have hm:n % 10<10:=Nat.mod_lt _ (by omega)
 have e1: ∀ K:Int→Option (AEx×List V×St),DZ (n:Int) 10 K=K ((n % 10:Nat):Int):=fun K=>LP n 10 K (by omega)
 have e2: ∀ K:Int→Option (AEx×List V×St),Cj 18446744073709551615 IntKind.u64 (n:Int) 10 K=K ((n / 10:Nat):Int):=fun K=>XQ n 10 K (by omega) (by omega)
 have e3:(((n % 10:Nat):Int)+1)=((n % 10+1:Nat):Int):=by omega
 have e4:=fun K=>KC (R:=AEx×List V×St) (s:=[48,49,50,51,52,53,54,55,56,57]) (l:=n % 10) (h:=n % 10+1) (by omega) (by simp;omega) K
 unfold t89
 by_cases h10:n<10
 ·have hi:((n:Int)<10):=by omega
  have e5:n % 10=n:=Nat.mod_eq_of_lt h10
  have ep:Bg n=[UInt8.ofNat (48+n)]:=by unfold Bg;rw [if_pos h10]
  simp (disch:=first | exact dD _ | assumption) only [↓reduceIte,↓rK,rP,AL,e1,e3,Ll _ hm,hi]
  rw [ep,e5]
 ·have hi:¬((n:Int)<10):=by omega
  have ep:Bg n=Bg (n / 10)++[UInt8.ofNat (48+n % 10)]:=by rw [Bg,if_neg h10]
  have hr:=fun τ=>h (n / 10) τ (by omega)
  have hb:=P0 (n / 10)
  simp (disch:=first | exact dD _ | assumption) only [↓reduceIte,↓rK,rP,AL,e1,e2,e3,Ll _ hm,hi,hr]
  rw [ep]
theorem pT {call:SS.Call} {k:Nat} (n:Nat) (hlen:n<4000000000) (h:¬n<10→∀ τ,call 89 [.int .u64 ((n / 10:Nat):Int)] τ=some (.str (Bg (n / 10)),τ)) (τ:St) :
 t89 call k [.int .u64 (n:Int)] τ=some (.str (Bg n),τ):=by
 have hm:n % 10<10:=Nat.mod_lt _ (by omega)
 have e1: ∀ K:Int→Option (AEx×List V×St),DZ (n:Int) 10 K=K ((n % 10:Nat):Int):=fun K=>LP n 10 K (by omega)
 have e2: ∀ K:Int→Option (AEx×List V×St),Cj 18446744073709551615 IntKind.u64 (n:Int) 10 K=K ((n / 10:Nat):Int):=fun K=>XQ n 10 K (by omega) (by omega)
 have e3:(((n % 10:Nat):Int)+1)=((n % 10+1:Nat):Int):=by omega
 have e4:=fun K=>KC (R:=AEx×List V×St) (s:=[48,49,50,51,52,53,54,55,56,57]) (l:=n % 10) (h:=n % 10+1) (by omega) (by simp;omega) K
 unfold t89
 by_cases h10:n<10
 ·have hi:((n:Int)<10):=by omega
  have e5:n % 10=n:=Nat.mod_eq_of_lt h10
  have ep:Bg n=[UInt8.ofNat (48+n)]:=by unfold Bg;rw [if_pos h10]
  simp (disch:=first | exact dD _ | assumption) only [↓reduceIte,↓rK,rP,AL,e1,e3,Ll _ hm,hi]
  rw [ep,e5]
 ·have hi:¬((n:Int)<10):=by omega
  have ep:Bg n=Bg (n / 10)++[UInt8.ofNat (48+n % 10)]:=by rw [Bg,if_neg h10]
  have hr:=h h10
  have hb:=P0 (n / 10)
  simp (disch:=first | exact dD _ | assumption) only [↓reduceIte,↓rK,rP,AL,e1,e2,e3,Ll _ hm,hi,hr]
  rw [ep]
theorem Zx {call:SS.Call} {k:Nat} (n:Int) (h1: -1000000≤n) (h2:n≤1000000) (h: ∀ (m:Nat) τ,m<4000000→call 89 [.int .u64 (m:Int)] τ=some (.str (Bg m),τ)) (τ:St) :
 t66 call k [.int .i64 n] τ=some (.str (BX n),τ):=by
 unfold t66
 by_cases hn:n<0
 ·have e1:(0 - (n+1)+1)=(((-n).toNat:Nat):Int):=by omega
  have hc:=fun τ=>h (-n).toNat τ (by omega)
  have hb:=P0 (-n).toNat
  have hd:BX n=45 :: Bg (-n).toNat:=by unfold BX;rw [if_pos hn]
  simp (disch:=first | exact dD _ | assumption) only [↓reduceIte,↓rK,rP,AL,hn,e1,hc]
  rw [hd];rfl
 ·have e1:n=((n.toNat:Nat):Int):=by omega
  have hc:=fun τ=>h n.toNat τ (by omega)
  rw [←e1] at hc
  have hd:BX n=Bg n.toNat:=by unfold BX;rw [if_neg hn]
  simp (disch:=first | exact dD _ | assumption) only [↓reduceIte,↓rK,rP,AL,hn,hc]
  rw [hd]
def strength (op:Int):Int:=if op=16 then 1 else if op=15 then 2 else if 9≤op∧op≤14 then 3 else if op=7∨op=8 then 4 else if op=6 then 5 else if op=4∨op=5 then 6 else 7
theorem uH (call:SS.Call) (k:Nat) (n:Int) (τ:St):t124 call k [.int .i64 n] τ=some (.int .i64 (strength n),τ):=by
 unfold t124 t124_2 t124_1 t124_0
 by_cases h16:n=16
 ·subst h16;simp (disch:=first | exact dD _ | assumption) only [↓reduceIte,↓rK,rP,AL];rfl
 by_cases h15:n=15
 ·subst h15;simp (disch:=first | exact dD _ | assumption) only [↓reduceIte,↓rK,rP,AL];rfl
 by_cases h14:n=14
 ·subst h14;simp (disch:=first | exact dD _ | assumption) only [↓reduceIte,↓rK,rP,AL];rfl
 by_cases h13:n=13
 ·subst h13;simp (disch:=first | exact dD _ | assumption) only [↓reduceIte,↓rK,rP,AL];rfl
 by_cases h12:n=12
 ·subst h12;simp (disch:=first | exact dD _ | assumption) only [↓reduceIte,↓rK,rP,AL];rfl
 by_cases h11:n=11
 ·subst h11;simp (disch:=first | exact dD _ | assumption) only [↓reduceIte,↓rK,rP,AL];rfl
 by_cases h10:n=10
 ·subst h10;simp (disch:=first | exact dD _ | assumption) only [↓reduceIte,↓rK,rP,AL];rfl
 by_cases h9:n=9
 ·subst h9;simp (disch:=first | exact dD _ | assumption) only [↓reduceIte,↓rK,rP,AL];rfl
 by_cases h8:n=8
 ·subst h8;simp (disch:=first | exact dD _ | assumption) only [↓reduceIte,↓rK,rP,AL];rfl
 by_cases h7:n=7
 ·subst h7;simp (disch:=first | exact dD _ | assumption) only [↓reduceIte,↓rK,rP,AL];rfl
 by_cases h6:n=6
 ·subst h6;simp (disch:=first | exact dD _ | assumption) only [↓reduceIte,↓rK,rP,AL];rfl
 by_cases h5:n=5
 ·subst h5;simp (disch:=first | exact dD _ | assumption) only [↓reduceIte,↓rK,rP,AL];rfl
 by_cases h4:n=4
 ·subst h4;simp (disch:=first | exact dD _ | assumption) only [↓reduceIte,↓rK,rP,AL];rfl
 have hs:strength n=7:=by unfold strength;grind
 rw [hs]
 simp (disch:=first | exact dD _ | assumption) only [↓reduceIte,↓rK,rP,AL,h16,h15,h14,h13,h12,h11,h10,h9,h8,h7,h6,h5,h4]
def KR (l:List Eff):Bool:=l.all (fun e=>isWord e.name&&Ck e.to)&&decide (l.length≤3)
def GR (l:List Eff):Prop:=l.length<1000000∧∀ e∈l,e.name.length<1000000∧Cg e.to
theorem qX {call:SS.Call} {k:Nat} (h1: ∀ (s:B) τ,s.length<1000000→call 29 [.str s] τ=some (.bool (isWord s),τ)) (h2: ∀ (l:List Al) τ,Cg l→call 77 [(AA Ae).enc l] τ=some (.bool (Ck l),τ)) (l:List Eff) (hs:GR l) (hk:l.length<k) (τ:St) :
 t100 call k [(AA Be).enc l] τ=some (.bool (KR l),τ):=by
 have hlen:=hs.1
 have hb: ∀ (i:Nat) (hi:i<l.length),t100_0 call k [(AA Be).enc l,.int .i64 (i:Int)] τ=bif isWord l[i].name&&Ck l[i].to then some (.norm,[(AA Be).enc l,.int .i64 ((i+1:Nat):Int)],τ) else some (.ret,[.bool false],τ):=by
  intro i hi
  obtain ⟨w1,w2⟩:=hs.2 _ (List.getElem_mem hi)
  unfold t100_0
  simp (disch:=first | exact dD _ | assumption) only [↓reduceIte,↓rK,rP,h1,h2]
  cases isWord l[i].name<;>cases Ck l[i].to<;>rfl
 obtain ⟨σ',g1,rfl⟩:=Ea (P:=t100_0 call k) (I:=fun σ=>σ=τ) (mk:=fun i=>[(AA Be).enc l,.int .i64 (i:Int)]) (fin:=[(AA Be).enc l]) (res:=[.bool false]) (id:=0) (n:=l.length)
  (ok:=fun i=>if h:i<l.length then isWord l[i].name&&Ck l[i].to else true)
  (by
    rintro i σ hi rfl ho
    simp only [dif_pos hi] at ho
    exact ⟨σ,by rw [hb i hi,ho];rfl,rfl⟩)
  (by
    rintro i σ hi rfl ho
    simp only [dif_pos hi] at ho
    exact ⟨σ,by rw [hb i hi,ho];rfl,rfl⟩)
  (by
    rintro σ rfl
    refine ⟨σ,?_,rfl⟩
    unfold t100_0
    simp (disch:=first | exact dD _ | assumption) only [↓reduceIte,↓rK,rP])
  l.length 0 k τ (by omega) hk rfl
 rw [show ((0:Nat):Int)=0 from rfl,JS (p:=fun e=>isWord e.name&&Ck e.to) (by intro i hi;simp only [dif_pos hi])] at g1
 unfold t100
 simp only [Ej,ES,g1]
 unfold t100_1 KR
 have a1:decide ((l.length:Int)≤3)=decide (l.length≤3):=decide_eq_decide.2 (by omega)
 cases l.all (fun e=>isWord e.name&&Ck e.to) with
 | false=>simp only [rO,AL,cond_false]
 | true=>simp only [↓rK,rO,AL,cond_true,a1]
theorem ar9:env.P.underlying 150=some (.array 9 9):=by kernel_rfl
theorem Yf:env.P.underlying 76=some (.array 17 9):=by kernel_rfl
theorem GL:(env.P.info? 9).map (·.size)=some 1:=by kernel_rfl
theorem uL:(env.P.info? 150).map (·.size)=some 9:=by kernel_rfl
theorem uK:(env.P.info? 76).map (·.size)=some 17:=by kernel_rfl
theorem vG:CD env 150 [(0,(V.str [60,61])),(1,(V.str [62,61])),(2,(V.str [61,61])),(3,(V.str [33,61])),(4,(V.str [38,38])),(5,(V.str [124,124])),(6,(V.str [45,62])),(7,(V.str [])),(8,(V.str []))] =
 some (.agg [.str [60,61],.str [62,61],.str [61,61],.str [33,61],.str [38,38],.str [124,124],.str [45,62],.str [],.str []]):=by kernel_rfl
theorem Y4:CD env 76 [(0,(V.str [])),(1,(V.str [])),(2,(V.str [])),(3,(V.str [])),(4,(V.str [])),(5,(V.str [])),(6,(V.str [42])),(7,(V.str [43])),(8,(V.str [45])),(9,(V.str [60])),(10,(V.str [60,61])),(11,(V.str [62])),(12,(V.str [62,61])),(13,(V.str [61,61])),(14,(V.str [33,61])),(15,(V.str [38,38])),(16,(V.str [124,124]))] =
 some (.agg [.str [],.str [],.str [],.str [],.str [],.str [],.str [42],.str [43],.str [45],.str [60],.str [60,61],.str [62],.str [62,61],.str [61,61],.str [33,61],.str [38,38],.str [124,124]]):=by kernel_rfl
theorem sD {call:SS.Call} {k:Nat} (s:B) (hs:s.length<1000000) (h0:1≤s.length) (hk:20<k): ∃ r σ,t122 call k [.str s] .empty=some (.str r,σ)∧r.length≤s.length:=by
 let M:List V:=[.str [60,61],.str [62,61],.str [61,61],.str [33,61],.str [38,38],.str [124,124],.str [45,62],.str [],.str []]
 obtain ⟨e,vs',τ,g1,_,g2⟩:=Br (P:=t122_0 call k) (Inv:=fun r vs τ=>∃ i:Nat,r+i=7∧vs=[.str s,.ptr 0 0 0,.int .i64 (i:Int)]∧τ.get 0=some (.blk M 150 0 false))
  (Q:=fun y=>(y.1=.exit 0∧y.2.1=[.str s])∨(y.1=.ret∧∃ r:B,y.2.1=[.str r]∧r.length≤s.length))
  (by
    rintro r vs τ ⟨i,hr,rfl,hI⟩
    by_cases hi:i<7
    ·have hix:=fun (n:Nat) (hn:n<9)=>Qs (b:=0) (ver:=0) (off:=0) ar9 GL hn
     have hcell: ∃ w:B,M[i]? = some (.str w)∧w.length=2:=by
      have:i=0∨i=1∨i=2∨i=3∨i=4∨i=5∨i=6:=by omega
      rcases this with rfl | rfl | rfl | rfl | rfl | rfl | rfl<;>exact ⟨_,rfl,rfl⟩
     obtain ⟨w,hw,hwl⟩:=hcell
     obtain ⟨q,hq⟩: ∃ q,t122_0 call k [.str s,.ptr 0 0 0,.int .i64 (i:Int)] τ=q:=⟨_,rfl⟩
     rw [hq]
     unfold t122_0 at hq
     by_cases h1:(1:Int)<(s.length:Int)
     ·have h2:2≤s.length:=by omega
      simp (disch:=first | exact dD _ | assumption) only [↓reduceIte,↓rK,rP,hix i (by omega),hI,Nat.mul_one,Nat.add_zero,hw] at hq
      by_cases he:List.take (2 - 0) s=w
      ·simp (disch:=first | exact dD _ | assumption) only [↓reduceIte,rP,he] at hq
       exact .inr ⟨_,_,_,hq.symm,(by intro h;cases h),.inr ⟨rfl,w,rfl,by omega⟩⟩
      ·simp (disch:=first | exact dD _ | assumption) only [↓reduceIte,rP,he] at hq
       exact .inl ⟨r - 1,_,_,by omega,hq.symm,i+1,by omega,rfl,hI⟩
     ·simp (disch:=first | exact dD _ | assumption) only [↓reduceIte,↓rK,rP] at hq
      exact .inl ⟨r - 1,_,_,by omega,hq.symm,i+1,by omega,rfl,hI⟩
    ·have he:i=7:=by omega
     subst he
     refine .inr ⟨.exit 0,[.str s],τ,?_,(by intro h;cases h),.inl ⟨rfl,rfl⟩⟩
     unfold t122_0
     simp (disch:=first | exact dD _ | assumption) only [↓reduceIte,↓rK,rP])
  7 k [.str s,.ptr 0 0 0,.int .i64 0] ((St.empty.new (.blk [.str [],.str [],.str [],.str [],.str [],.str [],.str [],.str [],.str []] 150 0 false)).put 0 (.blk M 150 0 false)) (by omega) ⟨0,by omega,rfl,by rw [St.zAG,if_pos rfl]⟩
 obtain ⟨q,hq⟩: ∃ q,t122 call k [.str s] .empty=q:=⟨_,rfl⟩
 rw [hq]
 unfold t122 at hq
 simp (disch:=first | exact dD _ | assumption) only [↓rK,rP,vG,Av uL] at hq
 simp only [M] at g1
 rw [g1] at hq
 rcases g2 with ⟨e1,e2⟩ | ⟨e1,r,e2,e3⟩
 ·simp only at e1 e2
  subst e1 e2
  unfold t122_3 at hq
  obtain ⟨e,vs',τ2,g3,_,g4⟩:=Br (P:=t122_1 call k) (Inv:=fun r vs σ=>∃ i:Nat,r+i=13∧vs=[.str s,.str [40,41,91,93,43,45,42,60,62,33,64,59,61],.int .i64 (i:Int)]∧σ=τ)
   (Q:=fun y=>(y.1=.exit 2∧y.2.1=[])∨(y.1=.ret∧∃ r:B,y.2.1=[.str r]∧r.length≤s.length))
   (by
     rintro r vs σ ⟨i,hr,rfl,rfl⟩
     obtain ⟨q,hq⟩: ∃ q,t122_1 call k [.str s,.str [40,41,91,93,43,45,42,60,62,33,64,59,61],.int .i64 (i:Int)] σ=q:=⟨_,rfl⟩
     rw [hq]
     unfold t122_1 at hq
     have hlen:([40,41,91,93,43,45,42,60,62,33,64,59,61]:B).length=13:=rfl
     have e3:((i:Int)+1)=((i+1:Nat):Int):=by omega
     by_cases hi:i<13
     ·have h13:((i:Int)<13):=by omega
      have hsl:=fun K=>KC (R:=AEx×List V×St) (s:=[40,41,91,93,43,45,42,60,62,33,64,59,61]) (l:=i) (h:=i+1) (by omega) (by rw [hlen];omega) K
      simp (disch:=first | exact dD _ | assumption) only [↓reduceIte,↓rK,rP,Nat.reduceAdd,e3] at hq
      by_cases he:List.take (1 - 0) s=List.take (i+1 - i) (List.drop i [40,41,91,93,43,45,42,60,62,33,64,59,61])
      ·simp (disch:=first | exact dD _ | assumption) only [↓reduceIte,rP,he] at hq
       exact .inr ⟨_,_,_,hq.symm,(by intro h;cases h),.inr ⟨rfl,_,rfl,by simp;omega⟩⟩
      ·simp (disch:=first | exact dD _ | assumption) only [↓reduceIte,rP,he] at hq
       exact .inl ⟨r - 1,_,_,by omega,hq.symm,i+1,by omega,rfl,rfl⟩
     ·have h13:¬((i:Int)<13):=by omega
      simp (disch:=first | exact dD _ | assumption) only [↓reduceIte,↓rK,rP,Nat.reduceAdd] at hq
      exact .inr ⟨_,_,_,hq.symm,(by intro h;cases h),.inl ⟨rfl,rfl⟩⟩)
   13 k [.str s,.str [40,41,91,93,43,45,42,60,62,33,64,59,61],.int .i64 0] τ (by omega) ⟨0,by omega,rfl,rfl⟩
  simp (disch:=first | exact dD _ | assumption) only [↓rK,rP] at hq
  rw [g3] at hq
  rcases g4 with ⟨e1,e2⟩ | ⟨e1,r,e2,e3⟩
  ·simp only at e1 e2
   subst e1 e2
   unfold t122_2 at hq
   simp (disch:=first | exact dD _ | assumption) only [↓rK,rP,AL] at hq
   exact ⟨[],_,hq.symm,by simp⟩
  ·simp only at e1 e2
   subst e1 e2
   simp (disch:=first | exact dD _ | assumption) only [↓rK,rP,AL] at hq
   exact ⟨r,_,hq.symm,e3⟩
 ·simp only at e1 e2
  subst e1 e2
  simp (disch:=first | exact dD _ | assumption) only [↓rK,rP,AL] at hq
  exact ⟨r,_,hq.symm,e3⟩
theorem Y2 {call:SS.Call} {k:Nat} (h1: ∀ (n:Int) τ,call 124 [.int .i64 n] τ=some (.int .i64 (strength n),τ)) (t:BU) (lv:Int) (hk:20<k): ∃ (n:Int) (σ:St),t147 call k [BD.enc t,.int .i64 lv] .empty=some (.int .i64 n,σ)∧(n=0∨(6≤n∧n≤16∧t.kind=4)):=by
 obtain ⟨q,hq⟩: ∃ q,t147 call k [BD.enc t,.int .i64 lv] .empty=q:=⟨_,rfl⟩
 rw [hq]
 unfold t147 at hq
 by_cases h4:t.kind=4
 ·let M:List V:=[.str [],.str [],.str [],.str [],.str [],.str [],.str [42],.str [43],.str [45],.str [60],.str [60,61],.str [62],.str [62,61],.str [61,61],.str [33,61],.str [38,38],.str [124,124]]
  obtain ⟨e,vs',τ,g1,_,g2⟩:=Br (P:=t147_0 call k) (Inv:=fun r vs τ=>∃ i:Nat,r+i=17∧6≤i∧vs=[.int .i64 lv,.ptr 0 0 0,.ptr 1 0 0,.int .i64 (i:Int)]∧τ.get 1=some (.blk M 76 0 false)∧τ.get 0=some (.blk [.int .i64 t.kind,.str t.text,.int .i64 t.n,.int .i64 t.at_] 146 0 false))
   (Q:=fun y=>(y.1=.exit 0∧y.2.1=[])∨(y.1=.ret∧∃ n:Int,y.2.1=[.int .i64 n]∧6≤n∧n≤16))
   (by
     rintro r vs τ ⟨i,hr,hi6,rfl,hI,hJ⟩
     by_cases hi:i<17
     ·have hix:=fun (n:Nat) (hn:n<17)=>Qs (b:=1) (ver:=0) (off:=0) Yf GL hn
      have hcell: ∃ w:B,M[i]? = some (.str w):=by
       have:i=6∨i=7∨i=8∨i=9∨i=10∨i=11∨i=12∨i=13∨i=14∨i=15∨i=16:=by omega
       rcases this with rfl | rfl | rfl | rfl | rfl | rfl | rfl | rfl | rfl | rfl | rfl<;>exact ⟨_,rfl⟩
      obtain ⟨w,hw⟩:=hcell
      obtain ⟨q,hq⟩: ∃ q,t147_0 call k [.int .i64 lv,.ptr 0 0 0,.ptr 1 0 0,.int .i64 (i:Int)] τ=q:=⟨_,rfl⟩
      rw [hq]
      unfold t147_0 at hq
      simp (disch:=first | exact dD _ | assumption) only [↓reduceIte,↓rK,rP,hix i hi,hI,hJ,Nat.mul_one,Nat.add_zero,hw,h1] at hq
      split at hq
      ·exact .inr ⟨_,_,_,hq.symm,(by intro h;cases h),.inr ⟨rfl,_,rfl,by omega,by omega⟩⟩
      ·exact .inl ⟨r - 1,_,_,by omega,hq.symm,i+1,by omega,by omega,rfl,hI,hJ⟩
     ·have he:i=17:=by omega
      subst he
      refine .inr ⟨.exit 0,[],τ,?_,(by intro h;cases h),.inl ⟨rfl,rfl⟩⟩
      unfold t147_0
      simp (disch:=first | exact dD _ | assumption) only [↓reduceIte,↓rK,rP])
   11 k [.int .i64 lv,.ptr 0 0 0,.ptr 1 0 0,.int .i64 6] (((St.empty.new (.blk [.int .i64 t.kind,.str t.text,.int .i64 t.n,.int .i64 t.at_] 146 0 false)).new (.blk [.str [],.str [],.str [],.str [],.str [],.str [],.str [],.str [],.str [],.str [],.str [],.str [],.str [],.str [],.str [],.str [],.str []] 76 0 false)).put 1 (.blk M 76 0 false)) (by omega)
   ⟨6,by omega,by omega,rfl,by rw [St.zAG,if_pos rfl],by simp [St.zAG,St.zAE,AZ,BG]⟩
  simp (disch:=first | exact dD _ | assumption) only [↓reduceIte,↓rK,rP,Y4,Av uK,h4] at hq
  simp only [M,h4] at g1
  rw [g1] at hq
  rcases g2 with ⟨e1,e2⟩ | ⟨e1,n,e2,e3,e4⟩
  ·simp only at e1 e2
   subst e1 e2
   unfold t147_1 at hq
   simp (disch:=first | exact dD _ | assumption) only [↓rK,rP,AL] at hq
   exact ⟨0,_,hq.symm,.inl rfl⟩
  ·simp only at e1 e2
   subst e1 e2
   simp (disch:=first | exact dD _ | assumption) only [↓rK,rP,AL] at hq
   exact ⟨n,_,hq.symm,.inr ⟨e3,e4,h4⟩⟩
 ·simp (disch:=first | exact dD _ | assumption) only [↓reduceIte,↓rK,rP,AL,h4] at hq
  exact ⟨0,_,hq.symm,.inl rfl⟩
structure Rd (τ:St) (q:Nat) (toks:List BU) (a:Nat) (x:V) (out:List Al) (bad:Int) (b:Nat):Prop where
 blk:τ.get q=some (.blk [(AA BD).enc toks,.int .i64 (a:Int),x,.int .i64 bad] 177 0 false)
 lt:q<τ.n
 lst:Lst τ 122 4 x out.length (rows Ae out) b
 ne:b≠q
theorem Rd.set {τ:St} {q:Nat} {toks:List BU} {a:Nat} {x:V} {out:List Al} {bad:Int} {b:Nat} (h:Rd τ q toks a x out bad b) (a':Nat) (bad':Int) :
 Rd (τ.put q (.blk [(AA BD).enc toks,.int .i64 (a':Int),x,.int .i64 bad'] 177 0 false)) q toks a' x out bad' b :=
 ⟨by rw [St.zAG,if_pos rfl],by rw [Au];exact h.lt,h.lst.of (fun _=>by rw [St.zAG,if_neg h.ne]) (by rw [Au];exact Nat.le_refl _),h.ne⟩
theorem Rd.push {τ:St} {q:Nat} {toks:List BU} {a:Nat} {x:V} {out:List Al} {bad:Int} {b:Nat} (h:Rd τ q toks a x out bad b) (ho:out.length<4294967296) (t:Al) :
 ∃ x' b' σ',(∀ {R:Type} (K:V→St→Option R),BQ 122 4 1 [.int .i64 t.op,.int .i64 t.n,.str t.name,.str t.loc] x τ K=K x' σ')∧x'.one=true ∧
  σ'.get q=some (.blk [(AA BD).enc toks,.int .i64 (a:Int),x,.int .i64 bad] 177 0 false)∧τ.n≤σ'.n ∧
  Rd (σ'.put q (.blk [(AA BD).enc toks,.int .i64 (a:Int),x',.int .i64 bad] 177 0 false)) q toks a x' (out++[t]) bad b':=by
 obtain ⟨x',b',σ',ha,hL',hn',hfr,hb',hbn'⟩:=DV (new:=(Ae.enc t).cells) h.lst ho rfl (by decide)
 have hlt:=h.lt
 have hne:=h.ne
 have hbq:b'≠q:=by omega
 refine ⟨x',b',σ',fun K=>ha K,hL'.one,by rw [hfr q hlt (fun e=>hne e.symm)];exact h.blk,hn',by rw [St.zAG,if_pos rfl],by rw [Au];omega,?_,hbq⟩
 rw [DL,List.length_append]
 exact hL'.of (fun _=>by rw [St.zAG,if_neg hbq]) (by rw [Au];exact Nat.le_refl _)
theorem Rd.new {τ:St} {q:Nat} {toks:List BU} {a:Nat} {x:V} {out:List Al} {bad:Int} {b:Nat} (h:Rd τ q toks a x out bad b) {σ':St} (hg: ∀ c,c<τ.n→σ'.get c=τ.get c) (hn:τ.n≤σ'.n): ∃ b',Rd σ' q toks a x out bad b':=by
 have hlt:=h.lt
 obtain ⟨b1,hL,hb1⟩:=EI 3 h.lst
 have hne:=h.ne
 exact ⟨b1,by rw [hg q hlt];exact h.blk,by omega,hL.of (fun hc=>hg b1 hc) hn,by omega⟩
theorem kW {call:SS.Call} {k:Nat} {τ:St} {q:Nat} {toks:List BU} {a:Nat} {x:V} {out:List Al} {bad:Int} {b:Nat} (h:Rd τ q toks a x out bad b) (ha:a<toks.length) (s:B) :
 t153 call k [.ptr q 0 0,.str s] τ=some (.bool (decide (toks[a].kind=4)&&decide (toks[a].text=s)),τ):=by
 have hb:=h.blk
 unfold t153
 simp (disch:=first | exact dD _ | assumption) only [↓reduceIte,↓rK,rP,AL,hb]
theorem aV {call:SS.Call} {k:Nat} {τ:St} {q:Nat} {toks:List BU} {a:Nat} {x:V} {out:List Al} {b:Nat} (h:Rd τ q toks a x out (-1) b) :
 t154 call k [.ptr q 0 0] τ=some (.tup [],τ.put q (.blk [(AA BD).enc toks,.int .i64 (a:Int),x,.int .i64 (a:Int)] 177 0 false)):=by
 have hb:=h.blk
 unfold t154
 simp (disch:=first | exact dD _ | assumption) only [↓reduceIte,↓rK,rP,AL,Nat.reduceAdd,hb]
def Dt (out:List Al):Prop:=∀ t∈out,t.name.length<1000000∧t.loc.length<1000000
theorem Dt.app {out:List Al} (h:Dt out) (t:Al) (h1:t.name.length<1000000) (h2:t.loc.length<1000000):Dt (out++[t]):=by
 intro u hu
 rcases List.mem_append.1 hu with hu | hu
 ·exact h u hu
 ·rw [List.mem_singleton.1 hu];exact ⟨h1,h2⟩
structure DH (toks:List BU):Prop where
 len:toks.length<1000000
 ends: ∀ i (h:i<toks.length),toks[i].kind≠5→i+1<toks.length
 small: ∀ t∈toks,t.text.length<1000000
def EM (τ':St) (q:Nat) (toks:List BU) (a l:Nat):Prop :=
 ∃ a' x out bad b,Rd τ' q toks a' x out bad b∧a≤a'∧a'<toks.length∧(bad=-1∨(0≤bad∧bad<toks.length))∧out.length+a≤l+a'∧Dt out∧(bad=-1→a<a')
structure Fg (C:Nat→SS.Call) (bop:BU→Int→Int):Prop where
 level: ∀ k vs σ,C (k+1) 123 vs σ=t123 (C k) k vs σ
 unary: ∀ k vs σ,C (k+1) 146 vs σ=t146 (C k) k vs σ
 is: ∀ k vs σ,C (k+1) 153 vs σ=t153 (C k) k vs σ
 fail: ∀ k vs σ,C (k+1) 154 vs σ=t154 (C k) k vs σ
 binary: ∀ k,1≤k→∀ t lv τ,C k 147 [BD.enc t,.int .i64 lv] τ=some (.int .i64 (bop t lv),τ)
 bop: ∀ t lv,bop t lv=0∨t.kind=4
section
variable {C:Nat→SS.Call} {bop:BU→Int→Int} {q:Nat} {toks:List BU}
theorem Kc (hC:Fg C bop) {τ:St} {a:Nat} {x:V} {out:List Al} {bad:Int} {b:Nat} (h:Rd τ q toks a x out bad b) (ha:a<toks.length) (s:B) {k:Nat} (hk:1≤k) :
 C k 153 [.ptr q 0 0,.str s] τ=some (.bool (decide (toks[a].kind=4)&&decide (toks[a].text=s)),τ):=by
 obtain ⟨k,rfl⟩: ∃ k',k=k'+1:=⟨k - 1,by omega⟩
 rw [hC.is,kW h ha]
theorem Oo (hC:Fg C bop) {τ:St} {a:Nat} {x:V} {out:List Al} {b:Nat} (h:Rd τ q toks a x out (-1) b) {k:Nat} (hk:1≤k) :
 C k 154 [.ptr q 0 0] τ=some (.tup [],τ.put q (.blk [(AA BD).enc toks,.int .i64 (a:Int),x,.int .i64 (a:Int)] 177 0 false)):=by
 obtain ⟨k,rfl⟩: ∃ k',k=k'+1:=⟨k - 1,by omega⟩
 rw [hC.fail,aV h]
theorem mF (hC:Fg C bop) (hT:DH toks) (n:Int) (hn:1≤n∧n≤5) (a0 l0:Nat)
 (hin: ∀ a τ x out b,a0<a→a<toks.length→Rd τ q toks a x out (-1) b→out.length≤a→Dt out→∃ K τ',(∀ k,K≤k→C k 123 [.ptr q 0 0,.int .i64 (n+1)] τ=some (.tup [],τ'))∧EM τ' q toks a out.length) :
 ∀ r a τ x out bad b,toks.length - a≤r→a<toks.length→Rd τ q toks a x out bad b→(bad=-1∨(0≤bad∧bad<toks.length))→(bad=-1→a0<a)→a0≤a→out.length≤a→out.length+a0≤l0+a→Dt out →
  ∃ K e τ',(∀ k j,K≤k→K≤j→Ak (t123_0 (C k) k) j [.ptr q 0 0,.int .i64 n] τ=some (e,[],τ'))∧(e=.exit 0∨e=.ret)∧EM τ' q toks a0 l0:=by
 intro r
 induction r with
 | zero=>intro a τ x out bad b h1 h2;omega
 | succ r ih =>
  intro a τ x out bad b hr ha hR hbad hba ha0 hol hgr hso
  have hlen:=hT.len
  have hblk:=hR.blk
  rcases hbad with rfl | ⟨hb0,hb1⟩
  ·have hb:=fun k hk=>hC.binary k hk toks[a] n τ
   rcases hC.bop toks[a] n with h0 | h4
   ·refine ⟨1,.ret,τ,fun k j hk hj=>?_,.inr rfl,a,x,out,-1,b,hR,ha0,ha,.inl rfl,hgr,hso,hba⟩
    obtain ⟨j,rfl⟩: ∃ j',j=j'+1:=⟨j - 1,by omega⟩
    have hbk:=hb k hk
    rw [En]
    unfold t123_0
    simp (disch:=first | exact dD _ | assumption) only [↓reduceIte,↓rK,rP,hblk,hbk,h0]
   ·by_cases h0:bop toks[a] n=0
    ·refine ⟨1,.ret,τ,fun k j hk hj=>?_,.inr rfl,a,x,out,-1,b,hR,ha0,ha,.inl rfl,hgr,hso,hba⟩
     obtain ⟨j,rfl⟩: ∃ j',j=j'+1:=⟨j - 1,by omega⟩
     have hbk:=hb k hk
     rw [En]
     unfold t123_0
     simp (disch:=first | exact dD _ | assumption) only [↓reduceIte,↓rK,rP,hblk,hbk,h0]
    ·have ha1:a+1<toks.length:=hT.ends a ha (by omega)
     have hR1:=hR.set (a+1) (-1)
     obtain ⟨K1,τ2,hc,a2,x2,out2,bad2,b2,hR2,h1,h2,h3,h4',h5,h6⟩:=hin (a+1) _ x out b (by have:=hba rfl;omega) ha1 hR1 (by omega) hso
     obtain ⟨x3,b3,σ3,hap,hx1,hq3,hn3,hR3⟩:=hR2.push (by omega) ⟨bop toks[a] n,0,[],[]⟩
     have hblk2:=hR2.blk
     have hx2:=hR2.lst.one
     have hsm:=h5.app ⟨bop toks[a] n,0,[],[]⟩ (by simp) (by simp)
     have hstep: ∀ k,K1+1≤k→t123_0 (C k) k [.ptr q 0 0,.int .i64 n] τ=some (if n=3 then .ret else .norm,if n=3 then [] else [.ptr q 0 0,.int .i64 n],σ3.put q (.blk [(AA BD).enc toks,.int .i64 (a2:Int),x3,.int .i64 bad2] 177 0 false)):=by
      intro k hk
      have hbk:=hb k (by omega)
      have hck:=hc k (by omega)
      have e1:((a:Int)+1)=((a+1:Nat):Int):=by omega
      unfold t123_0
      simp (disch:=first | exact dD _ | assumption) only [↓reduceIte,↓rK,rP,Nat.reduceAdd,hblk,hbk,h0,e1,hck,hblk2,hap,hx2,hq3,↓BB,BB]
      by_cases hnn:n=3
      ·simp [hnn]
      ·simp [hnn]
     have hl3:(out2++[(⟨bop toks[a] n,0,[],[]⟩:Al)]).length=out2.length+1:=by simp
     by_cases hnn:n=3
     ·refine ⟨K1+1,.ret,_,fun k j hk hj=>?_,.inr rfl,a2,x3,_,bad2,b3,hR3,by omega,h2,h3,by omega,hsm,fun hb=>by have:=h6 hb;omega⟩
      obtain ⟨j,rfl⟩: ∃ j',j=j'+1:=⟨j - 1,by omega⟩
      rw [En,hstep k hk,if_pos hnn,if_pos hnn];rfl
     ·obtain ⟨K2,e,τ',hl,he,hw⟩:=ih a2 _ x3 _ bad2 b3 (by omega) h2 hR3 h3 (fun hb=>by have:=h6 hb;omega) (by omega) (by omega) (by omega) hsm
      refine ⟨K1+K2+1,e,τ',fun k j hk hj=>?_,he,hw⟩
      obtain ⟨j,rfl⟩: ∃ j',j=j'+1:=⟨j - 1,by omega⟩
      rw [En,hstep k (by omega),if_neg hnn,if_neg hnn]
      exact hl k j (by omega) (by omega)
  ·refine ⟨1,.exit 0,τ,fun k j hk hj=>?_,.inl rfl,a,x,out,bad,b,hR,ha0,ha,.inr ⟨hb0,hb1⟩,hgr,hso,fun h=>by omega⟩
   obtain ⟨j,rfl⟩: ∃ j',j=j'+1:=⟨j - 1,by omega⟩
   rw [En]
   unfold t123_0
   simp (disch:=first | exact dD _ | assumption) only [↓reduceIte,↓rK,rP,hblk]
end
theorem LH {R:Type} {a b c d:V} (ha:a.one=true) (hb:b.one=true) (hc:c.one=true) (hd:d.one=true) (K:List V→Option R):agN 4 (.agg [a,b,c,d]) K=K [a,b,c,d]:=by
 have e: ∀ v:V,v.one=true→V.isOne v=true:=fun v h=>by rw [V.zAH];exact h
 unfold agN
 show gd (Nat.beq (BN [a,b,c,d]) 4) (gd (Ew V.isOne [a,b,c,d]) (K [a,b,c,d]))=_
 have h1:BN [a,b,c,d]=4:=by rw [Bv];rfl
 rw [h1]
 have h2:Ew V.isOne [a,b,c,d]=true:=by
  unfold Ew
  simp only [e a ha,e b hb,e c hc,e d hd]
 rw [h2];rfl
section
variable {C:Nat→SS.Call} {bop:BU→Int→Int} {q:Nat} {toks:List BU}
set_option maxHeartbeats 8000000 in
theorem vU (hC:Fg C bop) (hT:DH toks) {τ:St} {a:Nat} {x:V} {out:List Al} {b:Nat} (hR:Rd τ q toks a x out (-1) b) (ha:a<toks.length) (hol:out.length≤a) (_:Dt out) (h4:toks[a].kind=4) (hs:toks[a].text=[33]∨toks[a].text=[45])
 (hin: ∀ τ,Rd τ q toks (a+1) x out (-1) b→∃ K τ',(∀ k,K≤k→C k 146 [.ptr q 0 0] τ=some (.tup [],τ'))∧EM τ' q toks (a+1) out.length) :
 ∃ K τ',(∀ k,K≤k→C k 146 [.ptr q 0 0] τ=some (.tup [],τ'))∧EM τ' q toks a out.length:=by
 have hlen:=hT.len
 have hblk:=hR.blk
 have ha1:a+1<toks.length:=hT.ends a ha (by omega)
 obtain ⟨K1,τ2,hc,a2,x2,out2,bad2,b2,hR2,h1,h2,h3,h4',h5,h6⟩:=hin _ (hR.set (a+1) (-1))
 have hblk2:=hR2.blk
 have hx2:=hR2.lst.one
 have e1:((a:Int)+1)=((a+1:Nat):Int):=by omega
 have main: ∀ op:Int,op≠0→∃ σ',(∀ k,K1+1≤k→t146_1 (C k) k [.ptr q 0 0,.int .i64 op] τ=some (.ret,[],σ'))∧EM σ' q toks a out.length:=by
  intro op hop
  obtain ⟨x3,b3,σ3,hap,hx1,hq3,hn3,hR3⟩:=hR2.push (by omega) ⟨op,0,[],[]⟩
  have hsm:=h5.app ⟨op,0,[],[]⟩ (by simp) (by simp)
  have hl3:(out2++[(⟨op,0,[],[]⟩:Al)]).length=out2.length+1:=by simp
  refine ⟨_,fun k hk=>?_,a2,x3,_,bad2,b3,hR3,by omega,h2,h3,by omega,hsm,fun hb=>by have:=h6 hb;omega⟩
  have hck:=hc k (by omega)
  unfold t146_1
  simp (disch:=first | exact dD _ | assumption) only [↓reduceIte,↓rK,rP,Nat.reduceAdd,hblk,hop,e1,hck,hblk2,hap,hx2,hq3,↓BB,BB]
 have hi:=fun (s:B) (k:Nat) (hk:1≤k)=>Kc hC hR ha s hk
 by_cases h33:toks[a].text=[33]
 ·obtain ⟨σ',hm,hw⟩:=main 4 (by decide)
  refine ⟨K1+2,σ',fun k hk=>?_,hw⟩
  obtain ⟨k,rfl⟩: ∃ k',k=k'+1:=⟨k - 1,by omega⟩
  have hik:=fun s=>hi s k (by omega)
  have hmk:=hm k (by omega)
  rw [hC.unary]
  unfold t146
  simp (disch:=first | exact dD _ | assumption) only [↓reduceIte,↓rK,rP,AL,hblk,hik,h4,h33,hmk]
 ·obtain ⟨σ',hm,hw⟩:=main 5 (by decide)
  refine ⟨K1+2,σ',fun k hk=>?_,hw⟩
  obtain ⟨k,rfl⟩: ∃ k',k=k'+1:=⟨k - 1,by omega⟩
  have hik:=fun s=>hi s k (by omega)
  have hmk:=hm k (by omega)
  have h45:toks[a].text=[45]:=hs.resolve_left h33
  have hne:¬(([45]:B)=[33]):=by decide
  rw [hC.unary]
  unfold t146
  simp (disch:=first | exact dD _ | assumption) only [↓reduceIte,↓rK,rP,AL,hblk,hik,h4,h45,hne,hmk]
theorem Qj (hC:Fg C bop) {τ τ':St} {a:Nat} {x:V} {out:List Al} {b:Nat} (hR:Rd τ q toks a x out (-1) b) (ha:a<toks.length) (hs:¬(toks[a].kind=4∧(toks[a].text=[33]∨toks[a].text=[45]))) {K:Nat}
 (h: ∀ k,K≤k→t146_1 (C k) k [.ptr q 0 0,.int .i64 0] τ=some (.ret,[],τ')) {k:Nat} (hk:K+2≤k):C k 146 [.ptr q 0 0] τ=some (.tup [],τ'):=by
 obtain ⟨k,rfl⟩: ∃ k',k=k'+1:=⟨k - 1,by omega⟩
 have hblk:=hR.blk
 have hik:=fun (s:B)=>Kc hC hR ha s (k:=k) (by omega)
 have hmk:=h k (by omega)
 have e1:(decide (toks[a].kind=4)&&decide (toks[a].text=[33]))=false:=by
  rw [Bool.and_eq_false_iff,decide_eq_false_iff_not,decide_eq_false_iff_not]
  by_cases h4:toks[a].kind=4
  ·exact .inr fun h=>hs ⟨h4,.inl h⟩
  ·exact .inl h4
 have e2:(decide (toks[a].kind=4)&&decide (toks[a].text=[45]))=false:=by
  rw [Bool.and_eq_false_iff,decide_eq_false_iff_not,decide_eq_false_iff_not]
  by_cases h4:toks[a].kind=4
  ·exact .inr fun h=>hs ⟨h4,.inr h⟩
  ·exact .inl h4
 rw [hC.unary]
 unfold t146
 have hneg:decide ((0:Int)≤-1)=false:=rfl
 simp (disch:=first | exact dD _ | assumption) only [↓reduceIte,↓rK,rO,AL,hblk,hik,e1,e2,hmk,hneg]
theorem FU:(env.P.info? 146).map (·.size)=some 4:=by kernel_rfl
set_option maxHeartbeats 8000000 in
theorem vS (hT:DH toks) {τ:St} {a:Nat} {x:V} {out:List Al} {b:Nat} (hR:Rd τ q toks a x out (-1) b) (ha:a<toks.length) (hol:out.length≤a) (hso:Dt out) (h1:toks[a].kind=1) :
 ∃ τ',(∀ k,t146_1 (C k) k [.ptr q 0 0,.int .i64 0] τ=some (.ret,[],τ'))∧EM τ' q toks a out.length:=by
 have hlen:=hT.len
 have hblk:=hR.blk
 have hlt:=hR.lt
 have ha1:a+1<toks.length:=hT.ends a ha (by omega)
 obtain ⟨b1,hR1⟩:=hR.new (σ':=(τ.new (.blk [.int .i64 0,.str [],.int .i64 0,.int .i64 0] 146 0 false)).put τ.n (.blk [.int .i64 toks[a].kind,.str toks[a].text,.int .i64 toks[a].n,.int .i64 toks[a].at_] 146 0 false))
  (fun c hc=>by rw [St.zAG,if_neg (by omega),St.zAE,if_neg (by omega)]) (by rw [Au,AZ];omega)
 have hR2:=hR1.set (a+1) (-1)
 obtain ⟨x3,b3,σ3,hap,hx1,hq3,hn3,hR3⟩:=hR2.push (by omega) ⟨1,toks[a].n,[],[]⟩
 have hx:=hR.lst.one
 have hsm:=hso.app ⟨1,toks[a].n,[],[]⟩ (by simp) (by simp)
 have hl3:(out++[(⟨1,toks[a].n,[],[]⟩:Al)]).length=out.length+1:=by simp
 refine ⟨_,fun k=>?_,a+1,x3,_,-1,b3,hR3,by omega,ha1,.inl rfl,by omega,hsm,fun _=>by omega⟩
 have e1:((a:Int)+1)=((a+1:Nat):Int):=by omega
 unfold t146_1
 simp (disch:=first | exact dD _ | assumption) only [↓reduceIte,↓rK,rP,Nat.reduceAdd,hblk,Av FU,e1,hx]
 simp only [h1] at hap ⊢
 simp (disch:=first | exact dD _ | assumption) only [rP,Nat.reduceAdd,hap,hq3]
end
section
variable {C:Nat→SS.Call} {bop:BU→Int→Int} {q:Nat} {toks:List BU}
theorem Qb {τ:St} {a:Nat} {x:V} {out:List Al} {b:Nat} (hR:Rd τ q toks a x out (-1) b) (A B:AO): ∃ b',Rd ((τ.new A).put τ.n B) q toks a x out (-1) b' :=
 hR.new (fun c hc=>by rw [St.zAG,if_neg (by omega),St.zAE,if_neg (by omega)]) (by rw [Au,AZ];omega)
theorem Rd.mod {τ:St} {a:Nat} {x:V} {out:List Al} {bad:Int} {b:Nat} (h:Rd τ q toks a x out bad b) {σ':St} {a':Nat} {bad':Int} (hg: ∀ c,c<τ.n→c≠q→σ'.get c=τ.get c) (hn:τ.n≤σ'.n)
 (hq:σ'.get q=some (.blk [(AA BD).enc toks,.int .i64 (a':Int),x,.int .i64 bad'] 177 0 false)): ∃ b',Rd σ' q toks a' x out bad' b':=by
 have hlt:=h.lt
 obtain ⟨b1,hL,hb1⟩:=EI 3 h.lst
 have hne:=h.ne
 exact ⟨b1,hq,by omega,hL.of (fun hc=>hg b1 hc (by omega)) hn,by omega⟩
set_option maxHeartbeats 8000000 in
theorem vT (hC:Fg C bop) (hT:DH toks) {τ:St} {a:Nat} {x:V} {out:List Al} {b:Nat} (hR:Rd τ q toks a x out (-1) b) (ha:a<toks.length) (_:out.length≤a) (hso:Dt out) (h1:toks[a].kind≠1) (h2:toks[a].kind≠2)
 (hin: ∀ τ b,a+1<toks.length→Rd τ q toks (a+1) x out (-1) b→∃ K τ',(∀ k,K≤k→C k 123 [.ptr q 0 0,.int .i64 1] τ=some (.tup [],τ'))∧EM τ' q toks (a+1) out.length) :
 ∃ K τ',(∀ k,K≤k→t146_1 (C k) k [.ptr q 0 0,.int .i64 0] τ=some (.ret,[],τ'))∧EM τ' q toks a out.length:=by
 have hlen:=hT.len
 have hblk:=hR.blk
 have hlt:=hR.lt
 obtain ⟨b1,hR1⟩:=Qb hR (.blk [.int .i64 0,.str [],.int .i64 0,.int .i64 0] 146 0 false) (.blk [.int .i64 toks[a].kind,.str toks[a].text,.int .i64 toks[a].n,.int .i64 toks[a].at_] 146 0 false)
 have hblk1:=hR1.blk
 have hi:=fun (s:B) (k:Nat) (hk:1≤k)=>Kc hC hR1 ha s hk
 cases h40:(decide (toks[a].kind=4)&&decide (toks[a].text=[40])) with
 | true =>
  have h4:toks[a].kind=4:=of_decide_eq_true ((Bool.and_eq_true _ _).mp h40).1
  have ha1:a+1<toks.length:=hT.ends a ha (by omega)
  have e1:((a:Int)+1)=((a+1:Nat):Int):=by omega
  obtain ⟨K1,τ2,hc,a2,x2,out2,bad2,b2,hR2,g1,g2,g3,g4,g5,g6⟩:=hin _ _ ha1 (hR1.set (a+1) (-1))
  have hblk2:=hR2.blk
  rcases g3 with rfl | ⟨hb0,hb1⟩
  ·have hi2:=fun (s:B) (k:Nat) (hk:1≤k)=>Kc hC hR2 g2 s hk
   cases h41:(decide (toks[a2].kind=4)&&decide (toks[a2].text=[41])) with
   | true =>
    have h4:toks[a2].kind=4:=of_decide_eq_true ((Bool.and_eq_true _ _).mp h41).1
    have ha2:a2+1<toks.length:=hT.ends a2 g2 (by omega)
    refine ⟨K1+1,_,fun k hk=>?_,a2+1,x2,out2,-1,b2,hR2.set (a2+1) (-1),by omega,ha2,.inl rfl,by omega,g5,fun _=>by omega⟩
    have hik:=fun s=>hi s k (by omega)
    have hik2:=fun s=>hi2 s k (by omega)
    have hck:=hc k (by omega)
    have e2:((a2:Int)+1)=((a2+1:Nat):Int):=by omega
    have hneg:decide ((0:Int)≤-1)=false:=rfl
    unfold t146_1
    simp (disch:=first | exact dD _ | assumption) only [↓reduceIte,↓rK,rO,Nat.reduceAdd,hblk,Av FU,h1,h2,hik,h40,hblk1,e1,hck,hblk2,hneg,hik2,h41,e2]
   | false =>
    have hf:=fun (k:Nat) (hk:1≤k)=>Oo hC hR2 hk
    refine ⟨K1+1,_,fun k hk=>?_,a2,x2,out2,(a2:Int),b2,hR2.set a2 (a2:Int),by omega,g2,.inr ⟨by omega,by omega⟩,by omega,g5,fun hh=>by omega⟩
    have hik:=fun s=>hi s k (by omega)
    have hik2:=fun s=>hi2 s k (by omega)
    have hck:=hc k (by omega)
    have hfk:=hf k (by omega)
    have hneg:decide ((0:Int)≤-1)=false:=rfl
    unfold t146_1
    simp (disch:=first | exact dD _ | assumption) only [↓reduceIte,↓rK,rO,Nat.reduceAdd,hblk,Av FU,h1,h2,hik,h40,hblk1,e1,hck,hblk2,hneg,hik2,h41,hfk]
  ·refine ⟨K1+1,τ2,fun k hk=>?_,a2,x2,out2,bad2,b2,hR2,by omega,g2,.inr ⟨hb0,hb1⟩,by omega,g5,fun hh=>by omega⟩
   have hik:=fun s=>hi s k (by omega)
   have hck:=hc k (by omega)
   have hpos:decide (0≤bad2)=true:=decide_eq_true hb0
   unfold t146_1
   simp (disch:=first | exact dD _ | assumption) only [↓reduceIte,↓rK,rO,Nat.reduceAdd,hblk,Av FU,h1,h2,hik,h40,hblk1,e1,hck,hblk2,hpos]
 | false =>
  have hf:=fun (k:Nat) (hk:1≤k)=>Oo hC hR1 hk
  refine ⟨1,_,fun k hk=>?_,a,x,out,(a:Int),b1,hR1.set a (a:Int),by omega,ha,.inr ⟨by omega,by omega⟩,by omega,hso,fun hh=>by omega⟩
  have hik:=fun s=>hi s k (by omega)
  have hfk:=hf k (by omega)
  unfold t146_1
  simp (disch:=first | exact dD _ | assumption) only [↓reduceIte,↓rK,rO,hblk,Av FU,h1,h2,hik,h40,hfk]
set_option maxHeartbeats 8000000 in
theorem vV (hC:Fg C bop) (hT:DH toks) {τ:St} {a:Nat} {x:V} {out:List Al} {b:Nat} (hR:Rd τ q toks a x out (-1) b) (ha:a<toks.length) (hol:out.length≤a) (hso:Dt out) (h2:toks[a].kind=2) :
 ∃ K τ',(∀ k,K≤k→t146_1 (C k) k [.ptr q 0 0,.int .i64 0] τ=some (.ret,[],τ'))∧EM τ' q toks a out.length:=by
 have hlen:=hT.len
 have hblk:=hR.blk
 have hlt:=hR.lt
 have hw:=hT.small _ (List.getElem_mem ha)
 have ha1:a+1<toks.length:=hT.ends a ha (by omega)
 have e1:((a:Int)+1)=((a+1:Nat):Int):=by omega
 obtain ⟨b1,hR1⟩:=Qb hR (.blk [.int .i64 0,.str [],.int .i64 0,.int .i64 0] 146 0 false) (.blk [.int .i64 2,.str toks[a].text,.int .i64 toks[a].n,.int .i64 toks[a].at_] 146 0 false)
 have hR2:=hR1.set (a+1) (-1)
 obtain ⟨b3,hR3⟩:=Qb hR2 (.blk [.int .i64 0,.int .i64 0,.str [],.str []] 122 0 false) (.blk [.int .i64 2,.int .i64 0,.str toks[a].text,.str []] 122 0 false)
 simp only [Au,AZ] at hR3
 have hblk3:=hR3.blk
 have hi:=fun (s:B) (k:Nat) (hk:1≤k)=>Kc hC hR3 ha1 s hk
 cases h64:(decide (toks[a+1].kind=4)&&decide (toks[a+1].text=[64])) with
 | true =>
  have h4:toks[a+1].kind=4:=of_decide_eq_true ((Bool.and_eq_true _ _).mp h64).1
  have htx:toks[a+1].text=[64]:=of_decide_eq_true ((Bool.and_eq_true _ _).mp h64).2
  have ha2:a+1+1<toks.length:=hT.ends (a+1) ha1 (by rw [h4];decide)
  have hw2:=hT.small _ (List.getElem_mem ha2)
  have e2:(((a+1:Nat):Int)+1)=((a+1+1:Nat):Int):=by omega
  have hR4:=hR3.set (a+1+1) (-1)
  by_cases hk2:toks[a+1+1].kind=2
  ·have ha3:a+1+1+1<toks.length:=hT.ends _ ha2 (by rw [hk2];decide)
   have e3:(((a+1+1:Nat):Int)+1)=((a+1+1+1:Nat):Int):=by omega
   obtain ⟨b5,hR5⟩:=hR.mod (a':=a+1+1+1) (bad':=-1) (σ':=((((((((τ.new (.blk [.int .i64 0,.str [],.int .i64 0,.int .i64 0] 146 0 false)).put τ.n (.blk [.int .i64 2,.str toks[a].text,.int .i64 toks[a].n,.int .i64 toks[a].at_] 146 0 false)).put q (.blk [(AA BD).enc toks,.int .i64 ((a+1:Nat):Int),x,.int .i64 (-1)] 177 0 false)).new (.blk [.int .i64 0,.int .i64 0,.str [],.str []] 122 0 false)).put (τ.n+1) (.blk [.int .i64 2,.int .i64 0,.str toks[a].text,.str []] 122 0 false)).put q (.blk [(AA BD).enc toks,.int .i64 ((a+1+1:Nat):Int),x,.int .i64 (-1)] 177 0 false)).put (τ.n+1) (.blk [.int .i64 3,.int .i64 0,.str toks[a].text,.str []] 122 0 false)).put (τ.n+1) (.blk [.int .i64 3,.int .i64 0,.str toks[a].text,.str toks[a+1+1].text] 122 0 false)).put q (.blk [(AA BD).enc toks,.int .i64 ((a+1+1+1:Nat):Int),x,.int .i64 (-1)] 177 0 false))
    (fun c hc hcq=>by simp (disch:=omega) only [St.zAG,St.zAE,Au,AZ,if_neg]) (by simp only [Au,AZ];omega) (by rw [St.zAG,if_pos rfl])
   obtain ⟨x4,b4,σ4,hap,hx1,hq4,hn4,hR6⟩:=hR5.push (by omega) ⟨3,0,toks[a].text,toks[a+1+1].text⟩
   have hx:=hR.lst.one
   have hsm:=hso.app ⟨3,0,toks[a].text,toks[a+1+1].text⟩ hw hw2
   have hl3:(out++[(⟨3,0,toks[a].text,toks[a+1+1].text⟩:Al)]).length=out.length+1:=by simp
   refine ⟨1,_,fun k hk=>?_,a+1+1+1,x4,_,-1,b4,hR6,by omega,ha3,.inl rfl,by omega,hsm,fun _=>by omega⟩
   have hik:=fun s=>hi s k (by omega)
   unfold t146_1
   simp (disch:=first | exact dD _ | assumption) only [↓reduceIte,↓rK,rP,Nat.reduceAdd,hblk,Av FU,Av Cv,h2,e1,hik,htx,hblk3,e2,hk2,e3]
   unfold t146_0
   simp (disch:=first | exact dD _ | assumption) only [↓reduceIte,↓rK,rP,Nat.reduceAdd,hx,hap,hq4,LH]
  ·have hf:=fun (k:Nat) (hk:1≤k)=>Oo hC hR4 hk
   refine ⟨1,_,fun k hk=>?_,a+1+1,x,out,((a+1+1:Nat):Int),b3,hR4.set (a+1+1) ((a+1+1:Nat):Int),by omega,ha2,.inr ⟨by omega,by omega⟩,by omega,hso,fun hh=>by omega⟩
   have hik:=fun s=>hi s k (by omega)
   have hfk:=hf k (by omega)
   unfold t146_1
   simp (disch:=first | exact dD _ | assumption) only [↓reduceIte,↓rK,rP,Nat.reduceAdd,hblk,Av FU,Av Cv,h2,e1,hik,htx,hblk3,e2,hk2,hfk]
 | false =>
  obtain ⟨x4,b4,σ4,hap,hx1,hq4,hn4,hR4⟩:=hR3.push (by omega) ⟨2,0,toks[a].text,[]⟩
  have hx:=hR.lst.one
  have hsm:=hso.app ⟨2,0,toks[a].text,[]⟩ hw (by simp)
  have hl3:(out++[(⟨2,0,toks[a].text,[]⟩:Al)]).length=out.length+1:=by simp
  refine ⟨1,_,fun k hk=>?_,a+1,x4,_,-1,b4,hR4,by omega,ha1,.inl rfl,by omega,hsm,fun _=>by omega⟩
  have hik:=fun s=>hi s k (by omega)
  unfold t146_1
  simp (disch:=first | exact dD _ | assumption) only [↓reduceIte,↓rK,rP,Nat.reduceAdd,hblk,Av FU,Av Cv,h2,e1,hik,h64]
  unfold t146_0
  simp (disch:=first | exact dD _ | assumption) only [↓reduceIte,↓rK,rP,Nat.reduceAdd,hblk3,hx,hap,hq4,LH]
end
section
variable {C:Nat→SS.Call} {bop:BU→Int→Int} {q:Nat} {toks:List BU}
theorem qK (hC:Fg C bop) (hT:DH toks): ∀ M:Nat,
 (∀ a τ x out b,a<toks.length→(toks.length - a)*10≤M→Rd τ q toks a x out (-1) b→out.length≤a→Dt out→∃ K τ',(∀ k,K≤k→C k 146 [.ptr q 0 0] τ=some (.tup [],τ'))∧EM τ' q toks a out.length) ∧
 (∀ (n:Nat) a τ x out b,1≤n→n≤6→a<toks.length→(toks.length - a)*10+(7 - n)≤M→Rd τ q toks a x out (-1) b→out.length≤a→Dt out→∃ K τ',(∀ k,K≤k→C k 123 [.ptr q 0 0,.int .i64 (n:Int)] τ=some (.tup [],τ'))∧EM τ' q toks a out.length):=by
 intro M
 induction M using Nat.strongRecOn with
 | _ M ih =>
  refine ⟨fun a τ x out b ha hM hR hol hso=>?_,fun n a τ x out b hn1 hn6 ha hM hR hol hso=>?_⟩
  ·by_cases hs:toks[a].kind=4∧(toks[a].text=[33]∨toks[a].text=[45])
   ·have ha1:a+1<toks.length:=hT.ends a ha (by rw [hs.1];decide)
    exact vU hC hT hR ha hol hso hs.1 hs.2 fun τ hR1=>(ih ((toks.length - (a+1))*10) (by omega)).1 (a+1) τ x out b ha1 (Nat.le_refl _) hR1 (by omega) hso
   ·by_cases h1:toks[a].kind=1
    ·obtain ⟨τ',hu,hw⟩:=vS (C:=C) hT hR ha hol hso h1
     exact ⟨0+2,τ',fun k hk=>Qj hC hR ha hs (K:=0) (fun k _=>hu k) hk,hw⟩
    ·by_cases h2:toks[a].kind=2
     ·obtain ⟨K,τ',hu,hw⟩:=vV hC hT hR ha hol hso h2
      exact ⟨K+2,τ',fun k hk=>Qj hC hR ha hs hu hk,hw⟩
     ·obtain ⟨K,τ',hu,hw⟩:=vT hC hT hR ha hol hso h1 h2 fun τ b ha1 hR1=>(ih ((toks.length - (a+1))*10+6) (by omega)).2 1 (a+1) τ x out b (by omega) (by omega) ha1 (by omega) hR1 (by omega) hso
      exact ⟨K+2,τ',fun k hk=>Qj hC hR ha hs hu hk,hw⟩
  ·by_cases h6:n=6
   ·subst h6
    obtain ⟨K,τ',hu,hw⟩:=(ih ((toks.length - a)*10) (by omega)).1 a τ x out b ha (Nat.le_refl _) hR hol hso
    refine ⟨K+1,τ',fun k hk=>?_,hw⟩
    obtain ⟨k,rfl⟩: ∃ k',k=k'+1:=⟨k - 1,by omega⟩
    have huk:=hu k (by omega)
    rw [hC.level]
    unfold t123
    have h56:((5:Int)<((6:Nat):Int)):=by omega
    simp (disch:=first | exact dD _ | assumption) only [↓reduceIte,↓rK,rP,AL,h56,huk]
   ·obtain ⟨K1,τ1,hl1,a1,x1,out1,bad1,b1,hR1,g1,g2,g3,g4,g5,g6⟩:=(ih ((toks.length - a)*10+(7 - (n+1))) (by omega)).2 (n+1) a τ x out b (by omega) (by omega) ha (Nat.le_refl _) hR hol hso
    obtain ⟨K2,e,τ2,hl2,he,hw⟩:=mF hC hT (n:Int) ⟨by omega,by omega⟩ a out.length
     (fun a' τ' x' out' b' ha' hlt hR' hol' hso'=>(ih ((toks.length - a')*10+(7 - (n+1))) (by omega)).2 (n+1) a' τ' x' out' b' (by omega) (by omega) hlt (Nat.le_refl _) hR' hol' hso')
     (toks.length - a1) a1 τ1 x1 out1 bad1 b1 (Nat.le_refl _) g2 hR1 g3 g6 g1 (by omega) g4 g5
    refine ⟨K1+K2+1,τ2,fun k hk=>?_,hw⟩
    obtain ⟨k,rfl⟩: ∃ k',k=k'+1:=⟨k - 1,by omega⟩
    have hl1k:=hl1 k (by omega)
    have hl2k:=hl2 k k (by omega) (by omega)
    rw [hC.level]
    unfold t123
    have h56:¬((5:Int)<(n:Int)):=by omega
    have e1:((n:Int)+1)=((n+1:Nat):Int):=by omega
    rcases he with rfl | rfl
    ·simp (disch:=first | exact dD _ | assumption) only [↓reduceIte,↓rK,rP,h56,e1,hl1k,hl2k]
     unfold t123_1
     simp (disch:=first | exact dD _ | assumption) only [↓rK,rP,AL]
    ·simp (disch:=first | exact dD _ | assumption) only [↓reduceIte,↓rK,rP,AL,h56,e1,hl1k,hl2k]
theorem uS (hC:Fg C bop) (hT:DH toks) (a:Nat) (ha:a<toks.length) :
 ∃ K v σ,(∀ k,K≤k→t99 (C k) k [(AA BD).enc toks,.int .i64 (a:Int)] .empty=some (v,σ)) ∧
  ((∃ (x:V) (out:List Al) (a' b:Nat),v=.tup [x,.int .i64 (a':Int),.int .i64 0]∧Lst σ 122 4 x out.length (rows Ae out) b∧a'<toks.length∧out.length≤30∧Dt out) ∨
   (∃ (a':Nat) (e:Int),v=.tup [.nilS,.int .i64 (a':Int),.int .i64 e]∧(e=2∨e=13)∧a'<toks.length)):=by
 have hR0:Rd (St.empty.new (.blk [(AA BD).enc toks,.int .i64 (a:Int),.nilS,.int .i64 (-1)] 177 0 false)) 0 toks a .nilS [] (-1) 1 :=
  ⟨rfl,by rw [AZ];omega,DI _ _ _ _,by decide⟩
 obtain ⟨K,τ',hl,a',x,out,bad,b,hR,g1,g2,g3,g4,g5,g6⟩:=(qK hC hT _).2 1 a _ .nilS [] 1 (by omega) (by omega) ha (Nat.le_refl _) hR0 (by simp) (by intro t ht;simp at ht)
 rw [show ((1:Nat):Int)=1 from rfl] at hl
 have hblk:=hR.blk
 have hone:=hR.lst.one
 have hcell:V.cellsF (V.agg [(AA BD).enc toks,.int .i64 (a:Int),V.nilS,.int .i64 (-1)])=[(AA BD).enc toks,.int .i64 (a:Int),V.nilS,.int .i64 (-1)]:=by rw [V.zAB];rfl
 have hneg:(Int.negSucc 0)=-1:=rfl
 have a1:=fun K=>hR.lst.len (R:=AEx×List V×St) K
 rcases g3 with rfl | ⟨hb0,hb1⟩
 ·by_cases h30:(30:Int)<(out.length:Int)
  ·refine ⟨K,_,τ',fun k hk=>?_,.inr ⟨a,13,rfl,.inr rfl,ha⟩⟩
   have hlk:=hl k hk
   unfold t99
   simp (disch:=first | exact dD _ | assumption) only [↓rK,rP,↓BB,BB,hneg,hcell]
   simp (disch:=first | exact dD _ | assumption) only [↓reduceIte,↓rK,rP,AL,hlk,hblk,a1,h30,hone]
  ·refine ⟨K,_,τ',fun k hk=>?_,.inl ⟨x,out,a',b,rfl,hR.lst,g2,by omega,g5⟩⟩
   have hlk:=hl k hk
   unfold t99
   simp (disch:=first | exact dD _ | assumption) only [↓rK,rP,↓BB,BB,hneg,hcell]
   simp (disch:=first | exact dD _ | assumption) only [↓reduceIte,↓rK,rP,AL,hlk,hblk,a1,h30,hone]
 ·obtain ⟨c,rfl⟩: ∃ c:Nat,bad=(c:Int):=⟨bad.toNat,by omega⟩
  refine ⟨K,_,τ',fun k hk=>?_,.inr ⟨c,2,rfl,.inl rfl,by omega⟩⟩
  have hlk:=hl k hk
  unfold t99
  simp (disch:=first | exact dD _ | assumption) only [↓rK,rP,↓BB,BB,hneg,hcell]
  simp (disch:=first | exact dD _ | assumption) only [↓reduceIte,↓rK,rP,AL,hlk,hblk]
end
end Go.Proofs.YtglndmmlghpdpaaGreatDoor
namespace Go.Proofs.YtglndmmlghpdpaaGreatDoor
open Go SS
set_option maxRecDepth 100000
set_option maxHeartbeats 4000000 in
theorem mH {call:SS.Call} (h1: ∀ c τ,call 54 [.int .u8 c] τ=some (.bool (Bq c),τ)) {k:Nat} (s:B) (hs:s.length≤60000) (hk:s.length<k) (a p:Nat) (ha:a<s.length) (hd:Bq (by8 s[a])=true) (x:V) (τ:St)
 (hp:τ.get p=some (.blk [.int .i64 1,.str [],.int .i64 0,.int .i64 (a:Int)] 146 0 false)) :
 ∃ n N σ,Ak (t98_1 call k) k [.str s,x,.int .i64 (a:Int),.int .i64 0,.ptr p 0 0] τ=some (.exit 3,[.str s,x,.int .i64 (a:Int),.int .i64 ((n:Nat):Int),.ptr p 0 0],σ)∧1≤n∧a+n≤s.length ∧
  σ.get p=some (.blk [.int .i64 1,.str [],.int .i64 N,.int .i64 (a:Int)] 146 0 false)∧(∀ c,c≠p→σ.get c=τ.get c)∧σ.n=τ.n:=by
 obtain ⟨e,vs',σ,g1,_,g2⟩:=Br (P:=t98_1 call k) (Inv:=fun r vs σ=>∃ (n:Nat) (N:Int),r+(a+n)=s.length∧vs=[.str s,x,.int .i64 (a:Int),.int .i64 (n:Int),.ptr p 0 0]∧σ.get p=some (.blk [.int .i64 1,.str [],.int .i64 N,.int .i64 (a:Int)] 146 0 false)∧(∀ c,c≠p→σ.get c=τ.get c)∧σ.n=τ.n∧0≤N∧N≤999∧(n=0→N≤0)∧(n=1→N≤9)∧(n=2→N≤99))
  (Q:=fun y=>y.1=.exit 3∧∃ (n:Nat) (N:Int),y.2.1=[.str s,x,.int .i64 (a:Int),.int .i64 (n:Int),.ptr p 0 0]∧1≤n∧a+n≤s.length∧y.2.2.get p=some (.blk [.int .i64 1,.str [],.int .i64 N,.int .i64 (a:Int)] 146 0 false)∧(∀ c,c≠p→y.2.2.get c=τ.get c)∧y.2.2.n=τ.n)
  (by
    rintro r vs σ ⟨n,N,hr,rfl,hg,hfr,hn,hN0,hN9,hb0,hb1,hb2⟩
    have e1:((a:Int)+(n:Int))=((a+n:Nat):Int):=by omega
    generalize hw:t98_1 call k [.str s,x,.int .i64 (a:Int),.int .i64 (n:Int),.ptr p 0 0] σ=w
    unfold t98_1 t98_0 at hw
    by_cases hi:a+n<s.length
    ·cases hdd:Bq (by8 s[a+n]) with
     | true =>
      have hd':=hdd
      unfold Bq at hd'
      simp only [Bool.and_eq_true,decide_eq_true_eq] at hd'
      by_cases h3:n<3
      ·simp (disch:=first | exact dD _ | assumption) only [↓reduceIte,↓rK,rP,Nat.reduceAdd,e1,h1,hdd,hg] at hw
       exact .inl ⟨r - 1,_,_,by omega,hw.symm,n+1,10*N+(by8 s[a+n] - 48),by omega,rfl,by rw [St.zAG,if_pos rfl],fun c hc=>by rw [St.zAG,if_neg hc];exact hfr c hc,hn,by omega,by omega,by omega,by omega,by omega⟩
      ·simp (disch:=first | exact dD _ | assumption) only [↓reduceIte,↓rK,rP,e1,h1,hdd] at hw
       exact .inl ⟨r - 1,_,_,by omega,hw.symm,n+1,N,by omega,rfl,hg,hfr,hn,hN0,hN9,by omega,by omega,by omega⟩
     | false =>
      simp (disch:=first | exact dD _ | assumption) only [↓reduceIte,↓rK,rP,e1,h1,hdd] at hw
      refine .inr ⟨_,_,_,hw.symm,(by intro h;cases h),rfl,n,N,rfl,?_,by omega,hg,hfr,hn⟩
      rcases Nat.eq_zero_or_pos n with h0 | h0
      ·subst h0
       simp only [Nat.add_zero] at hdd
       rw [hd] at hdd;cases hdd
      ·exact h0
    ·simp (disch:=first | exact dD _ | assumption) only [↓reduceIte,↓rK,rP,e1] at hw
     exact .inr ⟨_,_,_,hw.symm,(by intro h;cases h),rfl,n,N,rfl,by omega,by omega,hg,hfr,hn⟩)
  (s.length - a) k [.str s,x,.int .i64 (a:Int),.int .i64 0,.ptr p 0 0] τ (by omega) ⟨0,0,by omega,rfl,hp,fun _ _=>rfl,rfl,by omega,by omega,by omega,by omega,by omega⟩
 obtain ⟨e1,n,N,e2,h2,h3,h4,h5,h6⟩:=g2
 simp only at e1 e2 h4 h5 h6
 subst e1 e2
 exact ⟨n,N,σ,g1,h2,h3,h4,h5,h6⟩
set_option maxHeartbeats 4000000 in
theorem mK {call:SS.Call} (h1: ∀ c τ,call 54 [.int .u8 c] τ=some (.bool (Bq c),τ)) (h0: ∀ c τ,call 53 [.int .u8 c] τ=some (.bool (CW c),τ)) {k:Nat} (s:B) (hs:s.length≤60000) (hk:s.length<k) (a:Nat) (ha:a<s.length) (hd:CW (by8 s[a])=true) (x y:V) (τ:St) :
 ∃ n,Ak (t98_3 call k) k [.str s,x,.int .i64 (a:Int),.int .i64 0,y] τ=some (.exit 5,[.str s,x,.int .i64 (a:Int),.int .i64 ((n:Nat):Int),y],τ)∧1≤n∧a+n≤s.length:=by
 obtain ⟨e,vs',σ,g1,_,g2⟩:=Br (P:=t98_3 call k) (Inv:=fun r vs σ=>∃ (n:Nat),r+(a+n)=s.length∧vs=[.str s,x,.int .i64 (a:Int),.int .i64 (n:Int),y]∧σ=τ)
  (Q:=fun z=>z.1=.exit 5∧z.2.2=τ∧∃ (n:Nat),z.2.1=[.str s,x,.int .i64 (a:Int),.int .i64 (n:Int),y]∧1≤n∧a+n≤s.length)
  (by
    rintro r vs σ ⟨n,hr,rfl,rfl⟩
    have e1:((a:Int)+(n:Int))=((a+n:Nat):Int):=by omega
    generalize hw:t98_3 call k [.str s,x,.int .i64 (a:Int),.int .i64 (n:Int),y] σ=w
    unfold t98_3 at hw
    by_cases hi:a+n<s.length
    ·cases hdd:(CW (by8 s[a+n])||Bq (by8 s[a+n])) with
     | true =>
      simp (disch:=first | exact dD _ | assumption) only [↓reduceIte,↓rK,rP,e1,h1,h0,hdd] at hw
      exact .inl ⟨r - 1,_,_,by omega,hw.symm,n+1,by omega,rfl,rfl⟩
     | false =>
      simp (disch:=first | exact dD _ | assumption) only [↓reduceIte,↓rK,rP,e1,h1,h0,hdd] at hw
      refine .inr ⟨_,_,_,hw.symm,(by intro h;cases h),rfl,rfl,n,rfl,?_,by omega⟩
      rcases Nat.eq_zero_or_pos n with h0 | h0
      ·subst h0
       simp only [Nat.add_zero,hd,Bool.true_or] at hdd
       cases hdd
      ·exact h0
    ·simp (disch:=first | exact dD _ | assumption) only [↓reduceIte,↓rK,rP,e1] at hw
     exact .inr ⟨_,_,_,hw.symm,(by intro h;cases h),rfl,rfl,n,rfl,by omega,by omega⟩)
  (s.length - a) k [.str s,x,.int .i64 (a:Int),.int .i64 0,y] τ (by omega) ⟨0,by omega,rfl,rfl⟩
 obtain ⟨e1,e3,n,e2,h2,h3⟩:=g2
 simp only at e1 e2 e3
 subst e1 e2 e3
 exact ⟨n,g1,h2,h3⟩
end Go.Proofs.YtglndmmlghpdpaaGreatDoor
namespace Go.Proofs.YtglndmmlghpdpaaGreatDoor
open Go SS
set_option maxRecDepth 100000
def FE (toks:List BU):Prop:=∀ t∈toks,t.kind≠5∧t.text.length<1000000
theorem FE.app {l:List BU} (h:FE l) (t:BU) (h1:t.kind≠5) (h2:t.text.length<1000000):FE (l++[t]):=by
 intro u hu
 rcases List.mem_append.1 hu with hu | hu
 ·exact h u hu
 ·rw [List.mem_singleton.1 hu];exact ⟨h1,h2⟩
theorem mJ {call:SS.Call} {k:Nat} (s:B) (hs:s.length≤60000) (a n p:Nat) (hn:1≤n) (han:a+n≤s.length) (kd N:Int) (hkd:kd≠5) (x:V) (σ:St) (toks:List BU) (b:Nat) (hp:σ.get p=some (.blk [.int .i64 kd,.str [],.int .i64 N,.int .i64 (a:Int)] 146 0 false))
 (hL:Lst σ 146 4 x toks.length (rows BD toks) b) (hbp:b≠p) (htl:toks.length≤a) (hok:FE toks) :
 ∃ x' b' σ' toks',t98_5 call k [.str s,x,.int .i64 (a:Int),.int .i64 (n:Int),.ptr p 0 0] σ=some (.norm,[.str s,x',.int .i64 ((a+n:Nat):Int)],σ')∧Lst σ' 146 4 x' toks'.length (rows BD toks') b'∧toks'.length≤a+n∧FE toks':=by
 have hL2:=hL.of (σ':=σ.put p (.blk [.int .i64 kd,.str ((s.drop a).take (a+n - a)),.int .i64 N,.int .i64 (a:Int)] 146 0 false)) (fun _=>by rw [St.zAG,if_neg hbp]) (by rw [Au];exact Nat.le_refl _)
 obtain ⟨x',b',σ',ha,hL',_⟩:=DV (new:=(BD.enc ⟨kd,(s.drop a).take (a+n - a),N,(a:Int)⟩).cells) hL2 (by omega) rfl (by decide)
 refine ⟨x',b',σ',toks++[⟨kd,(s.drop a).take (a+n - a),N,(a:Int)⟩],?_,by rw [DL,List.length_append];exact hL',by simp;omega,hok.app _ hkd (by simp;omega)⟩
 have ha': ∀ {R:Type} (K:V→St→Option R),BQ 146 4 1 [.int .i64 kd,.str ((s.drop a).take (a+n - a)),.int .i64 N,.int .i64 (a:Int)] x (σ.put p (.blk [.int .i64 kd,.str ((s.drop a).take (a+n - a)),.int .i64 N,.int .i64 (a:Int)] 146 0 false)) K=K x' σ':=fun K=>ha K
 have e1:((a:Int)+(n:Int))=((a+n:Nat):Int):=by omega
 unfold t98_5
 simp (disch:=first | exact dD _ | assumption) only [↓reduceIte,↓rK,rP,Nat.reduceAdd,e1,hp,LH,ha']
set_option maxHeartbeats 16000000 in
theorem mG {call:SS.Call} (h1: ∀ c τ,call 54 [.int .u8 c] τ=some (.bool (Bq c),τ)) (h0: ∀ c τ,call 53 [.int .u8 c] τ=some (.bool (CW c),τ))
 (sg:B→B) (hsg: ∀ s τ,1≤s.length→s.length<1000000→call 122 [.str s] τ=some (.str (sg s),τ)) (hsl: ∀ s,1≤s.length→s.length<1000000→(sg s).length≤s.length)
 {k:Nat} (s:B) (hs:s.length≤60000) (hk:s.length<k) (a:Nat) (ha:a<s.length) (x:V) (τ:St) (toks:List BU) (b:Nat) (hL:Lst τ 146 4 x toks.length (rows BD toks) b) (htl:toks.length≤a) (hok:FE toks) :
 (∃ x' b' σ' toks' a',t98_7 call k [.str s,x,.int .i64 (a:Int)] τ=some (.norm,[.str s,x',.int .i64 ((a':Nat):Int)],σ')∧a<a'∧a'≤s.length∧Lst σ' 146 4 x' toks'.length (rows BD toks') b'∧toks'.length≤a'∧FE toks') ∨
 (∃ σ',t98_7 call k [.str s,x,.int .i64 (a:Int)] τ=some (.ret,[.nilS,.int .i64 2,.int .i64 (a:Int)],σ')):=by
 obtain ⟨b1,hL1,hb1⟩:=EI 3 hL
 have mkS: ∀ (kd N:Int),∃ σ,σ=((τ.new (.blk [.int .i64 0,.str [],.int .i64 0,.int .i64 0] 146 0 false)).put τ.n (.blk [.int .i64 0,.str [],.int .i64 0,.int .i64 (a:Int)] 146 0 false)).put τ.n (.blk [.int .i64 kd,.str [],.int .i64 N,.int .i64 (a:Int)] 146 0 false)∧σ.get τ.n=some (.blk [.int .i64 kd,.str [],.int .i64 N,.int .i64 (a:Int)] 146 0 false)∧Lst σ 146 4 x toks.length (rows BD toks) b1:=by
  intro kd N
  refine ⟨_,rfl,by rw [St.zAG,if_pos rfl],hL1.of (fun hc=>?_) (by simp only [Au,AZ];omega)⟩
  simp (disch:=omega) only [St.zAG,St.zAE,if_neg]
 have hbp:b1≠τ.n:=by omega
 generalize hw:t98_7 call k [.str s,x,.int .i64 (a:Int)] τ=w
 unfold t98_7 at hw
 by_cases hbl:(by8 s[a]=32∨by8 s[a]=9)∨by8 s[a]=10
 ·have hbl':((decide (by8 s[a]=32)||decide (by8 s[a]=9))||decide (by8 s[a]=10))=true:=by simpa using hbl
  simp (disch:=first | exact dD _ | assumption) only [↓reduceIte,↓rK,rP,Av FU,hbl',↓BB,BB] at hw
  unfold t98_6 at hw
  simp (disch:=first | exact dD _ | assumption) only [↓rK] at hw
  have e1:((a:Int)+1)=((a+1:Nat):Int):=by omega
  rw [e1] at hw
  refine .inl ⟨x,b1,_,toks,a+1,hw.symm,by omega,by omega,hL1.of (fun hc=>?_) (by simp only [Au,AZ];omega),by omega,hok⟩
  simp (disch:=omega) only [St.zAG,St.zAE,if_neg]
 ·have hbl':((decide (by8 s[a]=32)||decide (by8 s[a]=9))||decide (by8 s[a]=10))=false:=by simpa using hbl
  simp (disch:=first | exact dD _ | assumption) only [↓reduceIte,↓rK,rP,Nat.reduceAdd,Av FU,↓BB,BB,h0,h1] at hw
  have fin: ∀ (n:Nat) (kd N:Int) (σ:St) (tl:Res),1≤n→a+n≤s.length→kd≠5→σ.get τ.n=some (.blk [.int .i64 kd,.str [],.int .i64 N,.int .i64 (a:Int)] 146 0 false)→Lst σ 146 4 x toks.length (rows BD toks) b1 →
   A7 1 (t98_5 call k [.str s,x,.int .i64 (a:Int),.int .i64 (n:Int),.ptr τ.n 0 0] σ) (t98_6 call k)=w →
   (∃ x' b' σ' toks' a',w=some (.norm,[.str s,x',.int .i64 ((a':Nat):Int)],σ')∧a<a'∧a'≤s.length∧Lst σ' 146 4 x' toks'.length (rows BD toks') b'∧toks'.length≤a'∧FE toks') ∨
   (∃ σ',w=some (.ret,[.nilS,.int .i64 2,.int .i64 (a:Int)],σ')):=by
   intro n kd N σ _ hn1 han hkd hp hL hw
   obtain ⟨x',b',σ',toks',ht,hL',htl',hok'⟩:=mJ (call:=call) (k:=k) s hs a n τ.n hn1 han kd N hkd x σ toks b1 hp hL hbp htl hok
   rw [ht] at hw
   unfold t98_6 at hw
   simp (disch:=first | exact dD _ | assumption) only [↓rK] at hw
   exact .inl ⟨x',b',σ',toks',a+n,hw.symm,by omega,han,hL',htl',hok'⟩
  cases hd:Bq (by8 s[a]) with
  | true =>
   obtain ⟨σ1,e1,hp1,hL2⟩:=mkS 1 0
   obtain ⟨n,N,σ2,g1,g2,g3,g4,g5,g6⟩:=mH h1 s hs hk a τ.n ha hd x σ1 hp1
   simp (disch:=first | exact dD _ | assumption) only [↓reduceIte,rP,hd,←e1,g1] at hw
   unfold t98_2 at hw
   by_cases h3:(3:Int)<(n:Int)
   ·simp (disch:=first | exact dD _ | assumption) only [↓reduceIte,↓rK,rP,h3] at hw
    exact .inr ⟨_,hw.symm⟩
   ·simp (disch:=first | exact dD _ | assumption) only [↓reduceIte,↓rK,rP,h3] at hw
    exact fin n 1 N σ2 none g2 g3 (by decide) g4 (hL2.of (fun hc=>g5 _ hbp) (by omega)) hw
  | false =>
   cases hl:CW (by8 s[a]) with
   | true =>
    obtain ⟨σ1,e1,hp1,hL2⟩:=mkS 2 0
    obtain ⟨n,g1,g2,g3⟩:=mK h1 h0 s hs hk a ha hl x (.ptr τ.n 0 0) σ1
    simp (disch:=first | exact dD _ | assumption) only [↓reduceIte,rP,hd,hl,←e1,g1] at hw
    unfold t98_4 at hw
    by_cases h8:(8:Int)<(n:Int)
    ·simp (disch:=first | exact dD _ | assumption) only [↓reduceIte,↓rK,rP,h8] at hw
     exact .inr ⟨_,hw.symm⟩
    ·simp (disch:=first | exact dD _ | assumption) only [↓reduceIte,↓rK,rP,h8] at hw
     exact fin n 2 0 σ1 none g2 g3 (by decide) hp1 hL2 hw
   | false =>
    simp (disch:=first | exact dD _ | assumption) only [↓reduceIte,rP,hd,hl] at hw
    split at hw
    ·obtain ⟨σ1,e1,hp1,hL2⟩:=mkS 3 0
     simp (disch:=first | exact dD _ | assumption) only [↓rK,←e1] at hw
     exact fin 1 3 0 σ1 none (by omega) (by omega) (by decide) hp1 hL2 hw
    ·obtain ⟨σ1,e1,hp1,hL2⟩:=mkS 4 0
     have hdl:(s.drop a).length=s.length - a:=List.length_drop
     have hs1:=fun τ=>hsg (s.drop a) τ (by omega) (by omega)
     have hs2:=hsl (s.drop a) (by omega) (by omega)
     simp (disch:=first | exact dD _ | assumption) only [↓rK,rP,hs1,←e1] at hw
     by_cases hz:((sg (s.drop a)).length:Int)=0
     ·simp (disch:=first | exact dD _ | assumption) only [↓reduceIte,rP,hz] at hw
      exact .inr ⟨_,hw.symm⟩
     ·simp (disch:=first | exact dD _ | assumption) only [↓reduceIte,rP,hz] at hw
      exact fin (sg (s.drop a)).length 4 0 σ1 none (by omega) (by omega) (by decide) hp1 hL2 hw
theorem u7 {toks:List BU} (h:FE toks) (hl:toks.length≤60000) (a:Int):DH (toks++[⟨5,[],0,a⟩]):=by
 refine ⟨by simp;omega,fun i hi hk=>?_,fun t ht=>?_⟩
 ·by_cases he:i<toks.length
  ·simp;omega
  ·have:i=toks.length:=by simp at hi;omega
   subst this
   simp at hk
 ·rcases List.mem_append.1 ht with ht | ht
  ·exact (h t ht).2
  ·rw [List.mem_singleton.1 ht];simp
theorem mI {call:SS.Call} (h1: ∀ c τ,call 54 [.int .u8 c] τ=some (.bool (Bq c),τ)) (h0: ∀ c τ,call 53 [.int .u8 c] τ=some (.bool (CW c),τ))
 (sg:B→B) (hsg: ∀ s τ,1≤s.length→s.length<1000000→call 122 [.str s] τ=some (.str (sg s),τ)) (hsl: ∀ s,1≤s.length→s.length<1000000→(sg s).length≤s.length)
 {k:Nat} (s:B) (hk:60001<k) :
 ∃ v σ,t98 call k [.str s] .empty=some (v,σ) ∧
  ((∃ x toks b,v=.tup [x,.int .i64 0,.int .i64 0]∧Lst σ 146 4 x toks.length (rows BD toks) b∧DH toks∧1≤toks.length)∨(∃ (e a:Int),v=.tup [.nilS,.int .i64 e,.int .i64 a]∧(e=2∨e=14)∧0≤a∧a≤60000)):=by
 generalize hw:t98 call k [.str s] .empty=w
 unfold t98 at hw
 by_cases hlong:(60000:Int)<(s.length:Int)
 ·simp (disch:=first | exact dD _ | assumption) only [↓reduceIte,↓rK,rP,AL,hlong] at hw
  exact ⟨_,_,hw.symm,.inr ⟨14,0,rfl,.inr rfl,by omega,by omega⟩⟩
 ·have hs:s.length≤60000:=by omega
  obtain ⟨e,vs',τ,g1,_,g2⟩:=Br (P:=t98_7 call k) (Inv:=fun r vs τ=>∃ (a:Nat) (x:V) (toks:List BU) (b:Nat),r+a=s.length∧vs=[.str s,x,.int .i64 (a:Int)]∧Lst τ 146 4 x toks.length (rows BD toks) b∧toks.length≤a∧FE toks)
   (Q:=fun y=>(y.1=.exit 0∧∃ (x:V) (toks:List BU) (b:Nat),y.2.1=[x,.int .i64 (s.length:Int)]∧Lst y.2.2 146 4 x toks.length (rows BD toks) b∧toks.length≤s.length∧FE toks)∨(y.1=.ret∧∃ a:Nat,y.2.1=[.nilS,.int .i64 2,.int .i64 (a:Int)]∧a≤s.length))
   (by
     rintro r vs τ ⟨a,x,toks,b,hr,rfl,hL,htl,hok⟩
     by_cases ha:a<s.length
     ·rcases mG (call:=call) (k:=k) h1 h0 sg hsg hsl s hs (by omega) a ha x τ toks b hL htl hok with ⟨x',b',σ',toks',a',hb,haa,hal,hL',htl',hok'⟩ | ⟨σ',hb⟩
      ·exact .inl ⟨r - (a' - a),_,σ',by omega,hb,a',x',toks',b',by omega,rfl,hL',htl',hok'⟩
      ·exact .inr ⟨_,_,_,hb,(by intro h;cases h),.inr ⟨rfl,a,rfl,by omega⟩⟩
     ·have he:a=s.length:=by omega
      subst he
      refine .inr ⟨.exit 0,[x,.int .i64 (s.length:Int)],τ,?_,(by intro h;cases h),.inl ⟨rfl,x,toks,b,rfl,hL,htl,hok⟩⟩
      unfold t98_7
      simp (disch:=first | exact dD _ | assumption) only [↓reduceIte,↓rK,rP])
   s.length k [.str s,.nilS,.int .i64 0] .empty (by omega) ⟨0,.nilS,[],0,by omega,rfl,DI _ _ _ _,by simp,by intro t ht;simp at ht⟩
  simp (disch:=first | exact dD _ | assumption) only [↓reduceIte,↓rK,rP,hlong,g1] at hw
  rcases g2 with ⟨e1,x,toks,b,e2,hL,htl,hok⟩ | ⟨e1,a,e2,hal⟩
  ·simp only at e1 e2 hL
   subst e1 e2
   obtain ⟨x',b',σ',ha,hL',_⟩:=DV (new:=[.int .i64 5,.str [],.int .i64 0,.int .i64 (s.length:Int)]) hL (by omega) rfl (by decide)
   unfold t98_8 at hw
   simp (disch:=first | exact dD _ | assumption) only [↓rK,rP,AL,↓BB,BB,ha] at hw
   refine ⟨_,_,hw.symm,.inl ⟨x',toks++[⟨5,[],0,(s.length:Int)⟩],b',rfl,?_,u7 hok (by omega) _,by simp⟩⟩
   rw [DL,List.length_append];exact hL'
  ·simp only at e1 e2
   subst e1 e2
   simp (disch:=first | exact dD _ | assumption) only [↓rK,rP,AL] at hw
   exact ⟨_,_,hw.symm,.inr ⟨2,(a:Int),rfl,.inl rfl,by omega,by omega⟩⟩
inductive Gt
 | toks (l:List BU)
 | none (e a:Int)
def D5:Gt→V
 | .toks l=>.tup [(AA BD).enc l,.int .i64 0,.int .i64 0]
 | .none e a=>.tup [.emp,.int .i64 e,.int .i64 a]
inductive Gw
 | terms (l:List Al) (a:Nat)
 | none (a:Nat) (e:Int)
def Ef:Gw→V
 | .terms l a=>.tup [(AA Ae).enc l,.int .i64 (a:Int),.int .i64 0]
 | .none a e=>.tup [.emp,.int .i64 (a:Int),.int .i64 e]
def KF:Gt→Prop
 | .toks l=>DH l∧1≤l.length
 | .none e a=>(e=2∨e=14)∧0≤a∧a≤60000
def KI (l:List BU):Gw→Prop
 | .terms t a=>a<l.length∧t.length≤30∧Dt t
 | .none a e=>(e=2∨e=13)∧a<l.length
theorem pG {call:SS.Call} (lx:B→Gt) (hlx: ∀ s,KF (lx s)) (h1: ∀ s τ,call 98 [.str s] τ=some (D5 (lx s),τ))
 (tk:List BU→Nat→Gw) (htk: ∀ l a,DH l→a<l.length→KI l (tk l a)) (h2: ∀ l (a:Nat) τ,DH l→a<l.length→call 99 [(AA BD).enc l,.int .i64 (a:Int)] τ=some (Ef (tk l a),τ)) {k:Nat} (s:B) (τ:St) :
 ∃ v,t70 call k [.str s] τ=some (v,τ)∧((∃ l:List Al,v=.tup [(AA Ae).enc l,.int .i64 0,.int .i64 0]∧l.length≤30∧Dt l)∨(∃ e a:Int,v=.tup [.nilS,.int .i64 e,.int .i64 a]∧e≠0)):=by
 generalize hw:t70 call k [.str s] τ=w
 unfold t70 at hw
 have hl:=hlx s
 cases hs:lx s with
 | none e a =>
  rw [hs] at hl
  have hne:¬e=0:=by rcases hl.1 with h | h<;>omega
  have h1':=h1 s τ
  rw [hs] at h1'
  simp (disch:=first | exact dD _ | assumption) only [↓reduceIte,↓rK,rP,AL,h1',D5,hne] at hw
  exact ⟨_,hw.symm,.inr ⟨e,a,rfl,hne⟩⟩
 | toks l =>
  rw [hs] at hl
  have h1':=h1 s τ
  rw [hs] at h1'
  have h2':=h2 l 0 τ hl.1 hl.2
  have ht:=htk l 0 hl.1 hl.2
  rw [show ((0:Nat):Int)=0 from rfl] at h2'
  cases hk:tk l 0 with
  | none a e =>
   rw [hk] at h2' ht
   have hne:¬e=0:=by rcases ht.1 with h | h<;>omega
   have ha:=ht.2
   simp (disch:=first | exact dD _ | assumption) only [↓reduceIte,↓rK,rP,AL,h1',D5,h2',Ef,hne] at hw
   exact ⟨_,hw.symm,.inr ⟨e,_,rfl,hne⟩⟩
  | terms t a =>
   rw [hk] at h2' ht
   obtain ⟨ha,ht1,ht2⟩:=ht
   by_cases h5:l[a].kind=5
   ·simp (disch:=first | exact dD _ | assumption) only [↓reduceIte,↓rK,rP,AL,h1',D5,h2',Ef,h5] at hw
    exact ⟨_,hw.symm,.inl ⟨t,rfl,ht1,ht2⟩⟩
   ·simp (disch:=first | exact dD _ | assumption) only [↓reduceIte,↓rK,rP,AL,h1',D5,h2',Ef,h5] at hw
    exact ⟨_,hw.symm,.inr ⟨2,_,rfl,by decide⟩⟩
def JR (pr:List Al→B) (e:Eff):B:=[32,59,32]++e.name++[32,61,32]++pr e.to
def EG (pr:List Al→B) (l:List Eff):B:=l.flatMap (JR pr)
theorem Sq {pr:List Al→B} (hp: ∀ l,(pr l).length≤100000) (l:List Eff) (hs: ∀ e∈l,e.name.length<1000000):(EG pr l).length≤l.length*2000000:=by
 induction l with
 | nil=>simp [EG]
 | cons e r ih =>
  have h1:=ih fun e he=>hs e (by simp [he])
  have h2:=hs e (by simp)
  have h3:=hp e.to
  have:EG pr (e :: r)=JR pr e++EG pr r:=by simp [EG]
  rw [this,List.length_append]
  have h4:(JR pr e).length=e.name.length+(pr e.to).length+6:=by simp [JR];omega
  rw [h4];simp only [List.length_cons];omega
theorem pX {call:SS.Call} (pr:List Al→B) (hpr: ∀ l τ,Cg l→call 101 [(AA Ae).enc l] τ=some (.str (pr l),τ)) (hp: ∀ l,(pr l).length≤100000) {k:Nat} (l:List Eff) (hs:GR l) (hk:l.length<k) (τ:St) :
 t102 call k [(AA Be).enc l] τ=some (.str (EG pr l),τ):=by
 have hlen:=hs.1
 obtain ⟨e,vs',σ,g1,_,g2⟩:=Br (P:=t102_0 call k) (Inv:=fun r vs σ=>∃ i:Nat,r+i=l.length∧vs=[(AA Be).enc l,.str (EG pr (l.take i)),.int .i64 (i:Int)]∧σ=τ)
  (Q:=fun y=>y=(.exit 0,[.str (EG pr l)],τ))
  (by
    rintro r vs σ ⟨i,hr,rfl,rfl⟩
    generalize hw:t102_0 call k [(AA Be).enc l,.str (EG pr (l.take i)),.int .i64 (i:Int)] σ=w
    unfold t102_0 at hw
    by_cases hi:i<l.length
    ·obtain ⟨w1,w2⟩:=hs.2 _ (List.getElem_mem hi)
     have h3:=hp l[i].to
     have h4:=Sq hp (l.take i) fun e he=>(hs.2 e (List.mem_of_mem_take he)).1
     have h5:(l.take i).length=i:=by rw [List.length_take];omega
     rw [h5] at h4
     simp (disch:=first | exact dD _ | assumption) only [↓reduceIte,↓rK,rP,hpr] at hw
     refine .inl ⟨r - 1,_,_,by omega,hw.symm,i+1,by omega,?_,rfl⟩
     have ht:EG pr (l.take (i+1))=EG pr (l.take i)++JR pr l[i]:=by
      rw [List.take_succ_eq_append_getElem hi]
      unfold EG
      rw [List.flatMap_append]
      simp
     rw [ht]
     simp [JR]
    ·have he:i=l.length:=by omega
     subst he
     rw [List.take_length] at hw
     simp (disch:=first | exact dD _ | assumption) only [↓reduceIte,↓rK,rP] at hw
     exact .inr ⟨_,_,_,hw.symm,(by intro h;cases h),rfl⟩)
  l.length k [(AA Be).enc l,.str [],.int .i64 0] τ hk ⟨0,by omega,by simp [EG],rfl⟩
 unfold t102
 simp only [Ej,ES,g1,g2]
 unfold t102_1
 simp (disch:=first | exact dD _ | assumption) only [↓rK,rP,AL]
def I5 (t:Bi):Bool:=decide (1≤t.id)&&(decide (t.id≤999)&&(Ee t.sync&&(isWord t.proc&&(isWord t.from_&&(isWord t.to&&(Ck t.guard&&KR t.effs))))))
def LB (pr:List Al→B) (t:Bi):B:=BX t.id++[32]++t.proc++[32]++t.from_++[32]++t.to++[32]++(if t.sync=[] then [45] else t.sync)++[32]++pr t.guard++EG pr t.effs
theorem pY {call:SS.Call} (pr:List Al→B) (hpr: ∀ l τ,Cg l→call 101 [(AA Ae).enc l] τ=some (.str (pr l),τ)) (hp: ∀ l,(pr l).length≤100000)
 (h1: ∀ (s:B) τ,s.length<1000000→call 29 [.str s] τ=some (.bool (isWord s),τ)) (h2: ∀ (s:B) τ,s.length<1000000→call 56 [.str s] τ=some (.tup [.str s.dropLast,.bool (Ee s)],τ)) (h3: ∀ (c:Int) τ,call 57 [.int .i64 c] τ=some (.bool (decide (1≤c)&&decide (c≤999)),τ))
 (h4: ∀ (l:List Al) τ,Cg l→call 77 [(AA Ae).enc l] τ=some (.bool (Ck l),τ)) (h5: ∀ (l:List Eff) τ,GR l→call 100 [(AA Be).enc l] τ=some (.bool (KR l),τ))
 (h6: ∀ (n:Int) τ,-1000000≤n→n≤1000000→call 66 [.int .i64 n] τ=some (.str (BX n),τ)) (h7: ∀ (l:List Eff) τ,GR l→call 102 [(AA Be).enc l] τ=some (.str (EG pr l),τ))
 (h8: ∀ n:Int,1≤n→n≤999→(BX n).length≤1000) {k:Nat} (t:Bi) (hs:Dg t) :
 ∃ σ,t72 call k [BJ.enc t] .empty=some (.str (if I5 t then LB pr t else []),σ):=by
 obtain ⟨s1,s2,s3,s4,s5,s6,s7⟩:=hs
 have hX:GR t.effs:=⟨s6,s7⟩
 generalize hw:t72 call k [BJ.enc t] .empty=w
 unfold t72 at hw
 simp (disch:=first | exact dD _ | assumption) only [↓reduceIte,↓rK,rO,h1,h2,h3,h4,h5] at hw
 cases hok:I5 t with
 | false =>
  rw [if_pos (by unfold I5 at hok;grind)] at hw
  simp only [rO,AL] at hw
  exact ⟨_,hw.symm⟩
 | true =>
  rw [if_neg (by unfold I5 at hok;grind)] at hw
  have hid:1≤t.id∧t.id≤999:=by unfold I5 at hok;grind
  have b1:=h8 t.id hid.1 hid.2
  have b2:=hp t.guard
  have b3:=Sq hp t.effs fun e he=>(s7 e he).1
  by_cases hsy:t.sync=[]
  ·simp (disch:=first | exact dD _ | assumption) only [↓reduceIte,rP,hsy] at hw
   unfold t72_0 at hw
   simp (disch:=first | exact dD _ | assumption) only [↓reduceIte,↓rK,rP,AL,h6,h7,hpr] at hw
   refine ⟨_,hw.symm.trans (congrArg (fun b=>some (V.str b,_)) ?_)⟩
   simp [LB,hsy]
  ·simp (disch:=first | exact dD _ | assumption) only [↓reduceIte,rP,hsy] at hw
   unfold t72_0 at hw
   simp (disch:=first | exact dD _ | assumption) only [↓reduceIte,↓rK,rP,AL,h6,h7,hpr] at hw
   refine ⟨_,hw.symm.trans (congrArg (fun b=>some (V.str b,_)) ?_)⟩
   simp [LB,hsy]
theorem Vp {l:List Al} (h1:l.length≤30) (h2:Dt l):Cg l:=⟨by omega,h2⟩
set_option maxHeartbeats 8000000 in
theorem o5 {call:SS.Call} (lx:B→Gt) (hlx: ∀ s,KF (lx s)) (h1: ∀ s τ,call 98 [.str s] τ=some (D5 (lx s),τ))
 (tk:List BU→Nat→Gw) (htk: ∀ l a,DH l→a<l.length→KI l (tk l a)) (h2: ∀ l (a:Nat) τ,DH l→a<l.length→call 99 [(AA BD).enc l,.int .i64 (a:Int)] τ=some (Ef (tk l a),τ)) {k:Nat} (l:List B) (hl:l.length<1000000) (hk:l.length<k) :
 ∃ v σ,t71 call k [(AA AC).enc l] .empty=some (v,σ)∧(v=.tup [.nilS,.bool false]∨∃ x effs b,v=.tup [x,.bool true]∧Lst σ 100 2 x effs.length (rows Be effs) b∧GR effs):=by
 obtain ⟨e,vs',σ,g1,_,g2⟩:=Br (P:=t71_0 call k) (Inv:=fun r vs σ=>∃ (i:Nat) (x:V) (effs:List Eff) (b:Nat),r+i=l.length∧vs=[(AA AC).enc l,x,.int .i64 (i:Int)]∧Lst σ 100 2 x effs.length (rows Be effs) b∧effs.length≤i∧∀ f∈effs,f.name.length<1000000∧Cg f.to)
  (Q:=fun y=>(y.1=.exit 0∧∃ (x:V) (effs:List Eff) (b:Nat),y.2.1=[x]∧Lst y.2.2 100 2 x effs.length (rows Be effs) b∧effs.length<1000000∧∀ f∈effs,f.name.length<1000000∧Cg f.to)∨(y.1=.ret∧y.2.1=[.nilS,.bool false]))
  (by
    rintro r vs σ ⟨i,x,effs,b,hr,rfl,hL,hel,hsm⟩
    generalize hw:t71_0 call k [(AA AC).enc l,x,.int .i64 (i:Int)] σ=w
    unfold t71_0 at hw
    by_cases hi:i<l.length
    ·have h1':=h1 l[i] σ
     have hok:=hlx l[i]
     cases hlex:lx l[i] with
     | none e a =>
      rw [hlex] at h1' hok
      have hne:¬e=0:=by rcases hok.1 with h | h<;>omega
      simp (disch:=first | exact dD _ | assumption) only [↓reduceIte,↓rK,rP,h1',D5,hne] at hw
      exact .inr ⟨_,_,_,hw.symm,(by intro h;cases h),.inr ⟨rfl,rfl⟩⟩
     | toks t =>
      rw [hlex] at h1' hok
      by_cases ht3:(t.length:Int)<3
      ·simp (disch:=first | exact dD _ | assumption) only [↓reduceIte,↓rK,rP,h1',D5,ht3] at hw
       exact .inr ⟨_,_,_,hw.symm,(by intro h;cases h),.inr ⟨rfl,rfl⟩⟩
      ·have hlen3:3≤t.length:=by omega
       have h2':=h2 t 2 σ hok.1 (by omega)
       have ht:=htk t 2 hok.1 (by omega)
       rw [show ((2:Nat):Int)=2 from rfl] at h2'
       have i0: ∀ K:V→Option (Bool×St),Ab 4 ((AA BD).enc t) 0 0 σ K=K (.int .i64 t[0].kind):=fun K=>NP (n:=0) (by omega) K
       have i1: ∀ K:V→Option (Bool×St),Ab 4 ((AA BD).enc t) 1 0 σ K=K (.int .i64 t[1].kind):=fun K=>NP (n:=1) (by omega) K
       have i2: ∀ K:V→Option (Bool×St),Ab 4 ((AA BD).enc t) 1 1 σ K=K (.str t[1].text):=fun K=>NQ (n:=1) (by omega) K
       have i3: ∀ K:V→Option (AEx×List V×St),Ab 4 ((AA BD).enc t) 0 1 σ K=K (.str t[0].text):=fun K=>NQ (n:=0) (by omega) K
       have hsmall0:=hok.1.small _ (List.getElem_mem (show 0<t.length by omega))
       cases hk2:tk t 2 with
       | none a e =>
        rw [hk2] at h2' ht
        have hne:¬e=0:=by rcases ht.1 with h | h<;>omega
        have ha:=ht.2
        simp (disch:=first | exact dD _ | assumption) only [↓reduceIte,↓rK,rP,h1',D5,ht3,i0,i1,i2,h2',Ef,hne] at hw
        split at hw
        ·exact .inr ⟨_,_,_,hw.symm,(by intro h;cases h),.inr ⟨rfl,rfl⟩⟩
        ·exact .inr ⟨_,_,_,hw.symm,(by intro h;cases h),.inr ⟨rfl,rfl⟩⟩
       | terms tt a =>
        rw [hk2] at h2' ht
        obtain ⟨ha,ht1,ht2⟩:=ht
        obtain ⟨x',b',σ',hap,hL',_⟩:=DV (new:=(Be.enc ⟨t[0].text,tt⟩).cells) hL (by omega) rfl (by decide)
        have hap': ∀ {R:Type} (K:V→St→Option R),BQ 100 2 1 [.str t[0].text,(AA Ae).enc tt] x σ K=K x' σ':=fun K=>hap K
        simp (disch:=first | exact dD _ | assumption) only [↓reduceIte,↓rK,rP,h1',D5,ht3,i0,i1,i2,i3,h2',Ef,↓BB,BB,hap'] at hw
        split at hw
        ·exact .inr ⟨_,_,_,hw.symm,(by intro h;cases h),.inr ⟨rfl,rfl⟩⟩
        ·split at hw
         ·exact .inr ⟨_,_,_,hw.symm,(by intro h;cases h),.inr ⟨rfl,rfl⟩⟩
         ·refine .inl ⟨r - 1,_,_,by omega,hw.symm,i+1,x',effs++[⟨t[0].text,tt⟩],b',by omega,rfl,by rw [DL,List.length_append];exact hL',by simp;omega,?_⟩
          intro f hf
          rcases List.mem_append.1 hf with hf | hf
          ·exact hsm f hf
          ·rw [List.mem_singleton.1 hf];exact ⟨hsmall0,Vp ht1 ht2⟩
    ·have he:i=l.length:=by omega
     subst he
     simp (disch:=first | exact dD _ | assumption) only [↓reduceIte,↓rK,rP] at hw
     exact .inr ⟨_,_,_,hw.symm,(by intro h;cases h),.inl ⟨rfl,x,effs,b,rfl,hL,by omega,hsm⟩⟩)
  l.length k [(AA AC).enc l,.nilS,.int .i64 0] .empty hk ⟨0,.nilS,[],0,by omega,rfl,DI _ _ _ _,by simp,by intro f hf;simp at hf⟩
 generalize hw:t71 call k [(AA AC).enc l] .empty=w
 unfold t71 at hw
 simp only [Ej,ES,g1] at hw
 rcases g2 with ⟨e1,x,effs,b,e2,hL,hel,hsm⟩ | ⟨e1,e2⟩
 ·simp only at e1 e2 hL
  subst e1 e2
  unfold t71_1 at hw
  simp (disch:=first | exact dD _ | assumption) only [↓rK,rP,AL] at hw
  exact ⟨_,_,hw.symm,.inr ⟨x,effs,b,rfl,hL,hel,hsm⟩⟩
 ·simp only at e1 e2
  subst e1 e2
  simp (disch:=first | exact dD _ | assumption) only [↓rK,rP,AL] at hw
  exact ⟨_,_,hw.symm,.inl rfl⟩
theorem QL (l:List B) (h0:l≠[]) (n:Nat) (hn:n≤l.length) (σ:St):sliceAt env 37 ((AA AC).enc l) (some (.int .i64 (n:Int))) none none σ=some (.lst ((l.drop n).map V.str) false):=by
 have hu:env.P.underlying 37=some (.slice 9):=by kernel_rfl
 obtain ⟨i,hi,hs⟩:=Option.map_eq_some_iff.1 GL
 have hs:i.size=1:=hs
 match l,h0 with
 | a :: r,_ =>
  show sliceAt env _ (.lst (V.str a :: r.map V.str) false) _ none none σ=_
  unfold sliceAt
  simp only [hu]
  have hb:CF 0 (some (.int .i64 (n:Int)))=some n:=by rfl
  have hb2: ∀ m,CF m none=some m:=fun _=>rfl
  have hfs:GY env 9 (V.str a :: r.map V.str)=true:=by
   unfold GY
   simp only [hi,hs]
   rfl
  have hl:(V.str a :: r.map V.str).length=r.length+1:=by simp
  simp only [hb,hb2,hfs,hl]
  have h1:Nat.ble n (r.length+1)=true:=Nat.ble_eq_true_of_le (by simpa using hn)
  have h2:Nat.ble (r.length+1) (r.length+1)=true:=Nat.ble_eq_true_of_le (Nat.le_refl _)
  rw [h1,h2]
  simp only [Bool.and_self,Option.isNone_none,Option.isSome_none,Bool.or_true,if_true]
  have h3:(List.drop n (V.str a :: r.map V.str)).take (r.length+1 - n)=((a :: r).drop n).map V.str:=by
   rw [show V.str a :: r.map V.str=(a :: r).map V.str from rfl,←List.map_drop,List.take_of_length_le (by simp)]
  rw [h3]
  simp
theorem O4 (l:List B) (τ:St):Bb env τ [.lst (l.map V.str) false]=some [(AA AC).enc l]∧V.kind.kinds [V.lst (l.map V.str) false]≤1:=by
 match l with
 | []=>exact ⟨rfl,by decide⟩
 | a :: r =>
  have hz:=(AA AC).zero (a :: r)
  have hk:V.kind.kinds [(AA AC).enc (a :: r)]=0:=by rw [BI,hz];rfl
  exact ⟨GZ hk,by show V.kind.kinds [(AA AC).enc (a :: r)]≤1;omega⟩
theorem OP (c:UInt8): ∀ (s:B),∀ w∈cut c s,w.length≤s.length
 | [],w,hw=>by simp [cut] at hw;simp [hw]
 | d :: r,w,hw=>by
  have ih:=OP c r
  rw [IW] at hw
  split at hw
  ·rcases List.mem_cons.1 hw with rfl | hw
   ·simp
   ·have:=ih w hw;simp;omega
  ·split at hw
   ·rename_i h t e
    rcases List.mem_cons.1 hw with rfl | hw
    ·have:=ih h (by rw [e];simp);simp;omega
    ·have:=ih w (by rw [e];simp [hw]);simp;omega
   ·simp at hw;rw [hw];simp
theorem WY (s:B): ∀ w∈BC s,w.length≤s.length:=fun w hw=>OP 32 s w (List.mem_filter.1 hw).1
theorem Vo (s:B) (n:Nat):(CY s n).length≤s.length:=by
 induction n generalizing s with
 | zero=>exact Nat.le_refl _
 | succ n ih =>
  have h1:=ih ((s.dropWhile (fun c=>c==32)).dropWhile (fun c=>!(c==32)))
  have h2:=KP (fun c=>!(c==32)) (s.dropWhile (fun c=>c==32))
  have h3:=KP (fun c=>c==32) s
  show (CY _ n).length≤_
  omega
inductive IG
 | terms (l:List Al)
 | none (e a:Int)
def Gm:IG→V
 | .terms l=>.tup [(AA Ae).enc l,.int .i64 0,.int .i64 0]
 | .none e a=>.tup [.emp,.int .i64 e,.int .i64 a]
def LZ:IG→Prop
 | .terms l=>l.length≤30∧Dt l
 | .none e _=>e≠0
inductive IC
 | effs (l:List Eff)
 | none
def FX:IC→V
 | .effs l=>.tup [(AA Be).enc l,.bool true]
 | .none=>.tup [.emp,.bool false]
def LX:IC→Prop
 | .effs l=>GR l
 | .none=>True
theorem FV:(env.P.info? 70).map (·.size)=some 7:=by kernel_rfl
set_option maxHeartbeats 16000000 in
theorem o7 {call:SS.Call} (h1: ∀ (s:B) τ,s.length<999999→call 47 [.str s] τ=some ((AA AC).enc (BC s),τ)) (h2: ∀ (s:B) τ,s.length<1000000→call 37 [.str s,.bool false] τ=some (.tup [.int .i64 (Bz s).1,.bool (Bz s).2],τ))
 (h3: ∀ (s:B) τ,s.length<1000000→call 56 [.str s] τ=some (.tup [.str s.dropLast,.bool (Ee s)],τ)) (h4: ∀ (s:B) (n:Nat) τ,s.length<1000000→n<10→call 50 [.str s,.int .i64 (n:Int)] τ=some (.str (CY s n),τ))
 (h5: ∀ (s:B) (c:UInt8) τ,s.length<1000000→call 10 [.str s,.int .u8 (by8 c)] τ=some ((AA AC).enc (cut c s),τ)) (pp:B→IG) (hpp: ∀ s,LZ (pp s)) (h6: ∀ s τ,call 70 [.str s] τ=some (Gm (pp s),τ))
 (pe:List B→IC) (hpe: ∀ l,LX (pe l)) (h7: ∀ (l:List B) τ,l.length<1000000→call 71 [.lst (l.map V.str) false] τ=some (FX (pe l),τ))
 (pt:Bi→B) (h8: ∀ a b c d e g f τ,Dg ⟨a,b,c,d,e,g,f⟩→call 72 [.agg [.int .i64 a,.str b,.str c,.str d,.str e,(AA Ae).enc g,(AA Be).enc f]] τ=some (.str (pt ⟨a,b,c,d,e,g,f⟩),τ)) {k:Nat} (s:B) (hs:s.length<900000) :
 ∃ v σ,t49 call k [.str s] .empty=some (v,σ)∧(v=.tup [.agg [.int .i64 0,.str [],.str [],.str [],.str [],.nilS,.nilS],.bool false]∨∃ t:Bi,v=.tup [BJ.enc t,.bool true]∧Dg t):=by
 generalize hw:t49 call k [.str s] .empty=w
 unfold t49 at hw
 have hwl:=WY s
 by_cases h6w:((BC s).length:Int)<6
 ·simp (disch:=first | exact dD _ | assumption) only [↓reduceIte,↓rK,rP,AL,Nat.reduceAdd,h1,h6w,Av FV] at hw
  exact ⟨_,_,hw.symm,.inl rfl⟩
 ·have hlen:6≤(BC s).length:=by omega
  have i0: ∀ τ (K:V→Option (AEx×List V×St)),Ab 1 ((AA AC).enc (BC s)) 0 0 τ K=K (.str (BC s)[0]):=fun τ K=>Ei (n:=0) (by omega) K
  have i1: ∀ τ (K:V→Option (AEx×List V×St)),Ab 1 ((AA AC).enc (BC s)) 1 0 τ K=K (.str (BC s)[1]):=fun τ K=>Ei (n:=1) (by omega) K
  have i2: ∀ τ (K:V→Option (AEx×List V×St)),Ab 1 ((AA AC).enc (BC s)) 2 0 τ K=K (.str (BC s)[2]):=fun τ K=>Ei (n:=2) (by omega) K
  have i3: ∀ τ (K:V→Option (AEx×List V×St)),Ab 1 ((AA AC).enc (BC s)) 3 0 τ K=K (.str (BC s)[3]):=fun τ K=>Ei (n:=3) (by omega) K
  have i4: ∀ τ (K:V→Option (AEx×List V×St)),Ab 1 ((AA AC).enc (BC s)) 4 0 τ K=K (.str (BC s)[4]):=fun τ K=>Ei (n:=4) (by omega) K
  have l0:=hwl _ (List.getElem_mem (show 0<(BC s).length by omega))
  have l1:=hwl _ (List.getElem_mem (show 1<(BC s).length by omega))
  have l2:=hwl _ (List.getElem_mem (show 2<(BC s).length by omega))
  have l3:=hwl _ (List.getElem_mem (show 3<(BC s).length by omega))
  have l4:=hwl _ (List.getElem_mem (show 4<(BC s).length by omega))
  have hsk:=Vo s 5
  have hne:=JN 59 (CY s 5)
  have hcl:=Gz 59 (CY s 5)
  have hc1:1≤(cut 59 (CY s 5)).length:=List.length_pos_iff.2 hne
  have h4':=fun τ=>h4 s 5 τ (by omega) (by omega)
  have h5':=fun τ=>h5 (CY s 5) 59 τ (by omega)
  have j0: ∀ τ (K:V→Option (AEx×List V×St)),Ab 1 ((AA AC).enc (cut 59 (CY s 5))) 0 0 τ K=K (.str (cut 59 (CY s 5))[0]):=fun τ K=>Ei (n:=0) (by omega) K
  have hsl:=fun τ=>QL (cut 59 (CY s 5)) hne 1 hc1 τ
  have h7':=fun τ=>h7 ((cut 59 (CY s 5)).drop 1) τ (by rw [List.length_drop];omega)
  rw [show ((5:Nat):Int)=5 from rfl] at h4'
  rw [show by8 59=59 from rfl] at h5'
  rw [show ((1:Nat):Int)=1 from rfl] at hsl
  have rest: ∀ (sy:B) (hsy:sy.length<1000000) (ok:Bool) (σ:St),σ.get 0=some (.blk [.int .i64 0,.str [],.str [],.str [],.str [],.nilS,.nilS] 70 0 false)→σ.get 1=some (.blk [.int .i64 (Bz (BC s)[0]).1,.str (BC s)[1],.str (BC s)[2],.str (BC s)[3],.str sy,.nilS,.nilS] 70 0 false) →
   ∃ vs σ',t49_0 call k [.str s,.ptr 0 0 0,.bool ok,.ptr 1 0 0] σ=some (.ret,vs,σ')∧(vs=[.agg [.int .i64 0,.str [],.str [],.str [],.str [],.nilS,.nilS],.bool false]∨∃ t:Bi,vs=[BJ.enc t,.bool true]∧Dg t):=by
   intro sy hsy ok σ hg0 hg1
   generalize hw:t49_0 call k [.str s,.ptr 0 0 0,.bool ok,.ptr 1 0 0] σ=w
   unfold t49_0 at hw
   have h6':=fun τ=>h6 (cut 59 (CY s 5))[0] τ
   have hpk:=hpp (cut 59 (CY s 5))[0]
   have hek:=hpe ((cut 59 (CY s 5)).drop 1)
   have hx1:(V.emp).one=true:=rfl
   have st0: ∀ (σ':St) (v:V),σ'.get 0=some (.blk [.int .i64 0,.str [],.str [],.str [],.str [],.nilS,.nilS] 70 0 false)→v.cells.length=7→BM v.cells=true→storeAt env 70 (.ptr 0 0 0) v σ'=some (σ'.put 0 (.blk v.cells 70 0 false)):=fun σ' v h hv ho=>Et FV h rfl hv ho
   cases hp:pp (cut 59 (CY s 5))[0] with
   | none e a =>
    rw [hp] at hpk
    have hpk:¬e=0:=hpk
    simp only [hp,Gm] at h6'
    cases he:pe ((cut 59 (CY s 5)).drop 1) with
    | none =>
     simp only [he,FX] at h7'
     simp (disch:=first | omega | (simp (disch:=omega) only [St.zAG,if_neg,hg0,eq_self];done) | first | exact dD _ | assumption) only [↓reduceIte,↓rK,rP,Nat.reduceAdd,h4',h5',j0,h6',hsl,h7',↓BB,BB,hg1,hpk,st0] at hw
     exact ⟨_,_,hw.symm,.inl rfl⟩
    | effs l =>
     simp only [he,FX] at h7'
     simp (disch:=first | omega | (simp (disch:=omega) only [St.zAG,if_neg,hg0,eq_self];done) | first | exact dD _ | assumption) only [↓reduceIte,↓rK,rP,Nat.reduceAdd,h4',h5',j0,h6',hsl,h7',↓BB,BB,hg1,hpk,st0] at hw
     exact ⟨_,_,hw.symm,.inl rfl⟩
   | terms g =>
    rw [hp] at hpk
    simp only [hp,Gm] at h6'
    cases he:pe ((cut 59 (CY s 5)).drop 1) with
    | none =>
     simp only [he,FX] at h7'
     cases ok<;>(simp (disch:=first | omega | (simp (disch:=omega) only [St.zAG,if_neg,hg0,eq_self];done) | first | exact dD _ | assumption) only [↓reduceIte,↓rK,rP,Nat.reduceAdd,h4',h5',j0,h6',hsl,h7',↓BB,BB,hg1,st0] at hw;exact ⟨_,_,hw.symm,.inl rfl⟩)
    | effs l =>
     rw [he] at hek
     simp only [he,FX] at h7'
     have hst:Dg ⟨(Bz (BC s)[0]).1,(BC s)[1],(BC s)[2],(BC s)[3],sy,g,l⟩:=⟨by show (BC s)[1].length<_;omega,by show (BC s)[2].length<_;omega,by show (BC s)[3].length<_;omega,hsy,Vp hpk.1 hpk.2,hek⟩
     have h8':=fun τ=>h8 _ _ _ _ _ _ _ τ hst
     cases ok
     ·simp (disch:=first | omega | (simp (disch:=omega) only [St.zAG,if_neg,hg0,eq_self];done) | first | exact dD _ | assumption) only [↓reduceIte,↓rK,rP,Nat.reduceAdd,h4',h5',j0,h6',hsl,h7',↓BB,BB,hg1,st0] at hw
      exact ⟨_,_,hw.symm,.inl rfl⟩
     ·simp (disch:=first | omega | (simp (disch:=omega) only [St.zAG,if_neg,hg0,eq_self];done) | first | exact dD _ | assumption) only [↓reduceIte,↓rK,rP,Nat.reduceAdd,h4',h5',j0,h6',hsl,h7',↓BB,BB,hg1,st0,h8'] at hw
      split at hw
      ·exact ⟨_,_,hw.symm,.inl rfl⟩
      ·exact ⟨_,_,hw.symm,.inr ⟨_,rfl,hst⟩⟩
  have h2':=fun τ=>h2 (BC s)[0] τ (by omega)
  have h3':=fun τ=>h3 (BC s)[4] τ (by omega)
  by_cases h45:(BC s)[4]=[45]
  ·simp (disch:=first | exact dD _ | assumption) only [↓reduceIte,↓rK,rP,Nat.reduceAdd,h1,h6w,Av FV,i0,i1,i2,i3,i4,h2',↓BB,BB,h45] at hw
   obtain ⟨vs,σ',g1,g2⟩:=rest [] (by simp) (Bz (BC s)[0]).2 ((((St.empty.new (.blk [.int .i64 0,.str [],.str [],.str [],.str [],.nilS,.nilS] 70 0 false)).new (.blk [.int .i64 0,.str [],.str [],.str [],.str [],.nilS,.nilS] 70 0 false)).put 1 (.blk [.int .i64 (Bz (BC s)[0]).1,.str (BC s)[1],.str (BC s)[2],.str (BC s)[3],.str [45],.nilS,.nilS] 70 0 false)).put 1 (.blk [.int .i64 (Bz (BC s)[0]).1,.str (BC s)[1],.str (BC s)[2],.str (BC s)[3],.str [],.nilS,.nilS] 70 0 false)) (by simp (disch:=omega) only [St.zAG,St.zAE,AZ,BG,if_neg,if_true,eq_self]) (by rw [St.zAG,if_pos rfl])
   rw [g1] at hw
   rcases g2 with rfl | ⟨t,rfl,ht⟩
   ·simp only [rO,AL] at hw
    exact ⟨_,_,hw.symm,.inl rfl⟩
   ·simp only [rO,AL] at hw
    exact ⟨_,_,hw.symm,.inr ⟨t,rfl,ht⟩⟩
  ·simp (disch:=first | exact dD _ | assumption) only [↓reduceIte,↓rK,rP,h1,h6w,Av FV,i0,i1,i2,i3,i4,h2',h3',↓BB,BB,h45] at hw
   cases hsy:Ee (BC s)[4] with
   | false =>
    have st0: ∀ (σ':St) (v:V),σ'.get 0=some (.blk [.int .i64 0,.str [],.str [],.str [],.str [],.nilS,.nilS] 70 0 false)→v.cells.length=7→BM v.cells=true→storeAt env 70 (.ptr 0 0 0) v σ'=some (σ'.put 0 (.blk v.cells 70 0 false)):=fun σ' v h hv ho=>Et FV h rfl hv ho
    simp (disch:=first | omega | (simp (disch:=omega) only [St.zAG,St.zAE,AZ,BG,if_neg,if_true,eq_self];done) | first | exact dD _ | assumption) only [↓reduceIte,rP,AL,Nat.reduceAdd,hsy,st0] at hw
    exact ⟨_,_,hw.symm,.inl rfl⟩
   | true =>
    simp (disch:=first | exact dD _ | assumption) only [↓reduceIte,rP,hsy] at hw
    obtain ⟨vs,σ',g1,g2⟩:=rest (BC s)[4] (by omega) (Bz (BC s)[0]).2 (((St.empty.new (.blk [.int .i64 0,.str [],.str [],.str [],.str [],.nilS,.nilS] 70 0 false)).new (.blk [.int .i64 0,.str [],.str [],.str [],.str [],.nilS,.nilS] 70 0 false)).put 1 (.blk [.int .i64 (Bz (BC s)[0]).1,.str (BC s)[1],.str (BC s)[2],.str (BC s)[3],.str (BC s)[4],.nilS,.nilS] 70 0 false)) (by simp (disch:=omega) only [St.zAG,St.zAE,AZ,BG,if_neg,if_true,eq_self]) (by rw [St.zAG,if_pos rfl])
    rw [g1] at hw
    rcases g2 with rfl | ⟨t,rfl,ht⟩
    ·simp only [rO,AL] at hw
     exact ⟨_,_,hw.symm,.inl rfl⟩
    ·simp only [rO,AL] at hw
     exact ⟨_,_,hw.symm,.inr ⟨t,rfl,ht⟩⟩
def CK (n m:Int):Int:=if n.tmod m<0 then n.tmod m+m else n.tmod m
theorem Fz (n m:Int) (hm:0<m):0≤CK n m∧CK n m<m:=by
 have h1:=Int.tmod_lt_of_pos n hm
 have h2: -m<n.tmod m:=by
  have:=Int.tmod_lt_of_pos (-n) hm
  rw [Int.neg_tmod] at this
  omega
 unfold CK
 split<;>omega
theorem pI (call:SS.Call) (k:Nat) (n m:Int) (hm:0<m) (hb:m<1000000000) (τ:St):t33 call k [.int .i64 n,.int .i64 m] τ=some (.int .i64 (CK n m),τ):=by
 have h1:=Int.tmod_lt_of_pos n hm
 have h2: -m<n.tmod m:=by
  have:=Int.tmod_lt_of_pos (-n) hm
  rw [Int.neg_tmod] at this
  omega
 have hr:=fun K=>Qw (R:=AEx×List V×St) (x:=n) (y:=m) (by omega) K
 unfold t33 t33_0
 by_cases hn:n.tmod m<0
 ·simp (disch:=first | exact dD _ | assumption) only [↓reduceIte,↓rK,rP,AL,hr,hn]
  unfold CK;rw [if_pos hn]
 ·simp (disch:=first | exact dD _ | assumption) only [↓reduceIte,↓rK,rP,AL,hr,hn]
  unfold CK;rw [if_neg hn]
def fed (l:List Int) (a:Nat) (m:Int):Int:=match l[(a+1) % l.length]? with
 | some x=>CK (IntKind.i64.wrap (x.tdiv (1+(((a+1) / l.length:Nat):Int)))) m
 | none=>0
theorem aW (l:List Int) (a:Nat) (m:Int) (hm:0<m):0≤fed l a m∧fed l a m<m:=by
 unfold fed
 split
 ·exact Fz _ _ hm
 ·omega
theorem nV {call:SS.Call} (h1: ∀ (n m:Int) τ,0<m→m<1000000000→call 33 [.int .i64 n,.int .i64 m] τ=some (.int .i64 (CK n m),τ)) {k:Nat} (l:List Int) (hl0:l≠[]) (a q:Nat) (ha:a<1000000000) (m:Int) (hm:0<m) (hb:m<1000000000) (τ:St)
 (hq:τ.get q=some (.blk [(AA AJ).enc l,.int .i64 (a:Int)] 116 0 false)) :
 t73 call k [.ptr q 0 0,.int .i64 m] τ=some (.int .i64 (fed l a m),τ.put q (.blk [(AA AJ).enc l,.int .i64 ((a+1:Nat):Int)] 116 0 false)):=by
 have hpos:0<l.length:=List.length_pos_iff.2 hl0
 have hne:¬((l.length:Int)=0):=by omega
 have e1:((a:Int)+1)=((a+1:Nat):Int):=by omega
 have hr: ∀ K:Int→Option (AEx×List V×St),DZ ((a+1:Nat):Int) (l.length:Int) K=K (((a+1) % l.length:Nat):Int):=fun K=>LP (a+1) l.length K hpos
 have hlt:(a+1) % l.length<l.length:=Nat.mod_lt _ hpos
 have hd:(a+1) / l.length≤a+1:=Nat.div_le_self _ _
 have hq1: ∀ K:Int→Option (AEx×List V×St),Cj 9223372036854775807 IntKind.i64 ((a+1:Nat):Int) (l.length:Int) K=K (((a+1) / l.length:Nat):Int):=fun K=>by
  rw [Md (mx:=9223372036854775807) (k:=.i64) rfl hne]
  have e:(((a+1:Nat):Int)).tdiv (l.length:Int)=(((a+1) / l.length:Nat):Int):=rfl
  have hc:(((a+1) / l.length:Nat):Int)≤((a+1:Nat):Int):=Int.ofNat_le.2 hd
  rw [e,J4 (Int.le_trans (by decide) (Int.natCast_nonneg _)) (Int.le_trans hc (by omega))]
 have hy:(1+(((a+1) / l.length:Nat):Int))≠0:=by
  have:=Int.natCast_nonneg ((a+1) / l.length)
  intro h;omega
 have hq2: ∀ (x:Int) (K:Int→Option (AEx×List V×St)),Cj 9223372036854775807 IntKind.i64 x (1+(((a+1) / l.length:Nat):Int)) K=K (IntKind.i64.wrap (x.tdiv (1+(((a+1) / l.length:Nat):Int)))):=fun x K=>Md (mx:=9223372036854775807) (k:=.i64) rfl hy K
 have hfed:fed l a m=CK (IntKind.i64.wrap (l[(a+1) % l.length].tdiv (1+(((a+1) / l.length:Nat):Int)))) m:=by
  unfold fed;rw [List.getElem?_eq_getElem hlt]
 have hadd: ∀ K:Int→Option (AEx×List V×St),Aa 9223372036854775807 .i64 1 (((a+1) / l.length:Nat):Int) K=K (1+(((a+1) / l.length:Nat):Int)):=fun K=>by
  have hc:(((a+1) / l.length:Nat):Int)≤((a+1:Nat):Int):=Int.ofNat_le.2 hd
  have hn:=Int.natCast_nonneg ((a+1) / l.length)
  exact NK K (Int.le_trans (by decide) (Int.add_nonneg (by decide) hn)) (Int.le_trans (Int.add_le_add_left hc 1) (by omega))
 unfold t73
 simp (disch:=first | exact dD _ | assumption) only [↓reduceIte,↓rK,rP,AL,Nat.reduceAdd,hq,hne,e1,hr,hq1,hadd,hq2,h1]
 rw [hfed]
def Fd (τ:St) (q:Nat) (l:List Int) (a:Nat):Prop:=τ.get q=some (.blk [(AA AJ).enc l,.int .i64 (a:Int)] 116 0 false)
def Fed (τ σ:St) (q:Nat) (l:List Int) (a a':Nat):Prop:=Fd σ q l a'∧(∀ c,c≠q→σ.get c=τ.get c)∧σ.n=τ.n∧a≤a'
theorem Fed.trans {τ σ ρ:St} {q:Nat} {l:List Int} {a b c:Nat} (h1:Fed τ σ q l a b) (h2:Fed σ ρ q l b c):Fed τ ρ q l a c :=
 ⟨h2.1,fun x hx=>(h2.2.1 x hx).trans (h1.2.1 x hx),h2.2.2.1.trans h1.2.2.1,Nat.le_trans h1.2.2.2 h2.2.2.2⟩
theorem nU (l:List Int) (a q:Nat) (ha:a<1000000000) (m:Int) (hm:0<m) (hb:m<1000000000) (τ:St) (hq:Fd τ q l a) :
 ∃ (r:Int) (σ:St) (a':Nat),(∀ (call:SS.Call) (k:Nat),(∀ (n m:Int) τ,0<m→m<1000000000→call 33 [.int .i64 n,.int .i64 m] τ=some (.int .i64 (CK n m),τ))→t73 call k [.ptr q 0 0,.int .i64 m] τ=some (.int .i64 r,σ))∧0≤r∧r<m∧Fed τ σ q l a a'∧a'≤a+1:=by
 by_cases hl0:l=[]
 ·subst hl0
  have hq':τ.get q=some (.blk [(AA AJ).enc [],.int .i64 (a:Int)] 116 0 false):=hq
  refine ⟨0,τ,a,fun call k _=>?_,by omega,hm,⟨hq,fun _ _=>rfl,rfl,Nat.le_refl _⟩,by omega⟩
  have hz:(([]:List Int).length:Int)=0:=rfl
  unfold t73
  simp (disch:=first | exact dD _ | assumption) only [↓reduceIte,↓rK,rP,AL,hq']
 ·obtain ⟨h2,h3⟩:=aW l a m hm
  exact ⟨fed l a m,_,a+1,fun call k h1=>nV h1 l hl0 a q ha m hm hb τ hq,h2,h3,⟨by unfold Fd;rw [St.zAG,if_pos rfl],fun c hc=>by rw [St.zAG,if_neg hc],Au _ _,by omega⟩,by omega⟩
def Bf (s:B):Prop:=∀ c∈s,c≠10
theorem Bf.app {s t:B} (h1:Bf s) (h2:Bf t):Bf (s++t):=fun c hc=>(List.mem_append.1 hc).elim (h1 c) (h2 c)
theorem LD:env.P.underlying 91=some (.array 3 9):=by kernel_rfl
theorem Qm:env.G 0=some [.str [120],.str [121],.str [122]]:=by kernel_rfl
theorem U9:env.G 1=some [.str [112],.str [113],.str [114]]:=by kernel_rfl
theorem mR:env.G 2=some [.str [97],.str [98],.str [99],.str [100]]:=by kernel_rfl
theorem J7 {t el:TypeId} {len g off sz:Nat} (hd:env.P.underlying t=some (.array len el)) (hi:(env.P.info? el).map (·.size)=some sz) {n:Nat} (hn:n<len) :
 indexAt env t (.gptr g off) (.int .i64 (n:Int))=some (.gptr g (off+n*sz)):=by
 obtain ⟨i,h1,h2⟩:=Option.map_eq_some_iff.1 hi
 have h2:i.size=sz:=h2
 unfold indexAt
 have hr:Fq (n:Int) len=some n:=by
  show (if Nat.blt n len then some n else none)=some n
  have:Nat.blt n len=true:=by rw [Nat.blt_eq];exact hn
  rw [this];rfl
 simp only [hd,h1,hr,h2]
theorem J9 {g off n:Nat} {cs:List V} {v:V} {R:Type} (hg:env.G g=some cs) (hc:cs[off+n]? = some v) (h1:v.one=true) (σ:St) (K:V→Option R):ld1 env (.gptr g off) n σ K=K v:=by
 show oK (env.G g) (fun cs=>oK (DW cs (off+n)) fun v=>gd v.isOne (K v))=_
 rw [hg,EL,DX,hc,EL,V.zAH,h1];rfl
theorem BK {s:B} (h:(s.all fun c=>!(c==10))=true):Bf s:=fun c hc=>by
 have:=List.all_eq_true.1 h c hc
 simpa using this
theorem ED {v:UInt8} (h:v≠10):Bf [v]:=fun c hc=>by
 rw [List.mem_singleton.1 hc];exact h
theorem dK (a b c d:B):CD env 150 [(0,(V.str [49])),(1,(V.str [49])),(2,(V.str a)),(3,(V.str b)),(4,(V.str c)),(5,(V.str [120,33,61,121])),(6,(V.str [112,64,97,124,124,120,60,50])),(7,(V.str [33,40,113,64,98,41])),(8,(V.str d))] =
 some (.agg [.str [49],.str [49],.str a,.str b,.str c,.str [120,33,61,121],.str [112,64,97,124,124,120,60,50],.str [33,40,113,64,98,41],.str d]):=by kernel_rfl
theorem d9 (a b c d e f g h i:B) (n:Nat) (hn:n<9): ∃ s,s∈[a,b,c,d,e,f,g,h,i]∧C5 env 150 (.agg [.str a,.str b,.str c,.str d,.str e,.str f,.str g,.str h,.str i]) (.int .i64 (n:Int))=some (.str s):=by
 have:n=0∨n=1∨n=2∨n=3∨n=4∨n=5∨n=6∨n=7∨n=8:=by omega
 rcases this with rfl | rfl | rfl | rfl | rfl | rfl | rfl | rfl | rfl
 ·exact ⟨a,by simp,by kernel_rfl⟩
 ·exact ⟨b,by simp,by kernel_rfl⟩
 ·exact ⟨c,by simp,by kernel_rfl⟩
 ·exact ⟨d,by simp,by kernel_rfl⟩
 ·exact ⟨e,by simp,by kernel_rfl⟩
 ·exact ⟨f,by simp,by kernel_rfl⟩
 ·exact ⟨g,by simp,by kernel_rfl⟩
 ·exact ⟨h,by simp,by kernel_rfl⟩
 ·exact ⟨i,by simp,by kernel_rfl⟩
theorem dO {C:Nat→SS.Call} {l:List Int} {q:Nat} (hnx: ∀ (a:Nat) (m:Int) τ,a<1000000→0<m→m<1000→Fd τ q l a→∃ (r:Int) (σ:St) (a':Nat),(∀ k,1≤k→C k 73 [.ptr q 0 0,.int .i64 m] τ=some (.int .i64 r,σ))∧0≤r∧r<m∧Fed τ σ q l a a'∧a'≤a+1) (a:Nat) (ha:a<900000) (τ:St) (hq:Fd τ q l a) :
 ∃ (s:B) (σ:St) (a':Nat),(∀ k,1≤k→t74 (C k) k [.ptr q 0 0] τ=some (.str s,σ))∧Bf s∧s.length≤20∧Fed τ σ q l a a'∧a'≤a+2:=by
 obtain ⟨r,σ,a1,c1,r0,r1,f1,g1⟩:=hnx a 2 τ (by omega) (by omega) (by omega) hq
 obtain ⟨r2,σ2,a2,c2,r3,r4,f2,g2⟩:=hnx a1 9 σ (by omega) (by omega) (by omega) f1.1
 obtain ⟨n,rfl⟩: ∃ n:Nat,r=(n:Int):=⟨r.toNat,by omega⟩
 obtain ⟨n2,rfl⟩: ∃ n:Nat,r2=(n:Int):=⟨r2.toNat,by omega⟩
 have hv: ∃ v:UInt8,v≠10∧([.str [120],.str [121],.str [122]]:List V)[n]? = some (.str [v]):=by
  have:n=0∨n=1:=by omega
  rcases this with rfl | rfl
  ·exact ⟨120,by decide,rfl⟩
  ·exact ⟨121,by decide,rfl⟩
 obtain ⟨v,hv10,hvg⟩:=hv
 have hix:indexAt env 91 (.gptr 0 0) (.int .i64 (n:Int))=some (.gptr 0 n):=by
  have:=J7 (g:=0) (off:=0) LD GL (n:=n) (by omega)
  rw [this];simp
 have hld: ∀ (σ:St) (K:V→Option (AEx×List V×St)),ld1 env (.gptr 0 n) 0 σ K=K (.str [v]):=fun σ K=>J9 (n:=0) (off:=n) Qm hvg rfl σ K
 obtain ⟨s,hs1,hs2⟩:=d9 [49] [49] ([v]++[60,49]) ([v]++[62,48]) ([v]++[61,61,49]) [120,33,61,121] [112,64,97,124,124,120,60,50] [33,40,113,64,98,41] ([v]++[60,50]) n2 (by omega)
 refine ⟨s,σ2,a2,fun k hk=>?_,?_,?_,f1.trans f2,by omega⟩
 ·have c1:=c1 k hk
  have c2:=c2 k hk
  unfold t74
  simp (disch:=first | exact dD _ | assumption) only [↓rK,rP,AL,c1,hix,hld,dK,c2,hs2]
 ·simp only [List.mem_cons,List.not_mem_nil,or_false] at hs1
  rcases hs1 with rfl | rfl | rfl | rfl | rfl | rfl | rfl | rfl | rfl<;>first | exact BK (by decide) | exact (ED hv10).app (BK (by decide))
 ·simp only [List.mem_cons,List.not_mem_nil,or_false] at hs1
  rcases hs1 with rfl | rfl | rfl | rfl | rfl | rfl | rfl | rfl | rfl<;>simp
theorem sO (a b c d e f:B):CD env 119 [(0,(V.str [48])),(1,(V.str [49])),(2,(V.str a)),(3,(V.str b)),(4,(V.str c)),(5,(V.str d)),(6,(V.str e)),(7,(V.str f))] =
 some (.agg [.str [48],.str [49],.str a,.str b,.str c,.str d,.str e,.str f]):=by kernel_rfl
theorem Tp (a b c d e f g h:B) (n:Nat) (hn:n<8): ∃ s,s∈[a,b,c,d,e,f,g,h]∧C5 env 119 (.agg [.str a,.str b,.str c,.str d,.str e,.str f,.str g,.str h]) (.int .i64 (n:Int))=some (.str s):=by
 have:n=0∨n=1∨n=2∨n=3∨n=4∨n=5∨n=6∨n=7:=by omega
 rcases this with rfl | rfl | rfl | rfl | rfl | rfl | rfl | rfl
 ·exact ⟨a,by simp,by kernel_rfl⟩
 ·exact ⟨b,by simp,by kernel_rfl⟩
 ·exact ⟨c,by simp,by kernel_rfl⟩
 ·exact ⟨d,by simp,by kernel_rfl⟩
 ·exact ⟨e,by simp,by kernel_rfl⟩
 ·exact ⟨f,by simp,by kernel_rfl⟩
 ·exact ⟨g,by simp,by kernel_rfl⟩
 ·exact ⟨h,by simp,by kernel_rfl⟩
theorem LC (n:Nat) (hn:n<2): ∃ v:UInt8,v≠10∧indexAt env 91 (.gptr 0 0) (.int .i64 (n:Int))=some (.gptr 0 n)∧∀ (σ:St) (K:V→Option (AEx×List V×St)),ld1 env (.gptr 0 n) 0 σ K=K (.str [v]):=by
 have hv: ∃ v:UInt8,v≠10∧([.str [120],.str [121],.str [122]]:List V)[n]? = some (.str [v]):=by
  have:n=0∨n=1:=by omega
  rcases this with rfl | rfl
  ·exact ⟨120,by decide,rfl⟩
  ·exact ⟨121,by decide,rfl⟩
 obtain ⟨v,hv10,hvg⟩:=hv
 refine ⟨v,hv10,?_,fun σ K=>J9 (n:=0) (off:=n) Qm hvg rfl σ K⟩
 have:=J7 (g:=0) (off:=0) LD GL (n:=n) (by omega)
 rw [this];simp
theorem sP {C:Nat→SS.Call} {l:List Int} {q:Nat} (hnx: ∀ (a:Nat) (m:Int) τ,a<1000000→0<m→m<1000→Fd τ q l a→∃ (r:Int) (σ:St) (a':Nat),(∀ k,1≤k→C k 73 [.ptr q 0 0,.int .i64 m] τ=some (.int .i64 r,σ))∧0≤r∧r<m∧Fed τ σ q l a a'∧a'≤a+1) (a:Nat) (ha:a<900000) (τ:St) (hq:Fd τ q l a) :
 ∃ (s:B) (σ:St) (a':Nat),(∀ k,1≤k→t76 (C k) k [.ptr q 0 0] τ=some (.str s,σ))∧Bf s∧s.length≤20∧Fed τ σ q l a a'∧a'≤a+3:=by
 obtain ⟨r,σ,a1,c1,r0,r1,f1,g1⟩:=hnx a 2 τ (by omega) (by omega) (by omega) hq
 obtain ⟨r2,σ2,a2,c2,r3,r4,f2,g2⟩:=hnx a1 2 σ (by omega) (by omega) (by omega) f1.1
 obtain ⟨r5,σ3,a3,c3,r6,r7,f3,g3⟩:=hnx a2 8 σ2 (by omega) (by omega) (by omega) f2.1
 obtain ⟨n,rfl⟩: ∃ n:Nat,r=(n:Int):=⟨r.toNat,by omega⟩
 obtain ⟨n2,rfl⟩: ∃ n:Nat,r2=(n:Int):=⟨r2.toNat,by omega⟩
 obtain ⟨n3,rfl⟩: ∃ n:Nat,r5=(n:Int):=⟨r5.toNat,by omega⟩
 obtain ⟨v,hv10,hix,hld⟩:=LC n (by omega)
 obtain ⟨u,hu10,hix2,hld2⟩:=LC n2 (by omega)
 obtain ⟨s,hs1,hs2⟩:=Tp [48] [49] [v] ([49,45]++[v]) ([v]++[43,49]) ([v]++[45,49]) ([50,45]++[v]) [u] n3 (by omega)
 have hbr:V.beq (.str [u]) (.str [u])=true:=V.beq_refl _
 refine ⟨s,σ3,a3,fun k hk=>?_,?_,?_,(f1.trans f2).trans f3,by omega⟩
 ·have c1:=c1 k hk
  have c2:=c2 k hk
  have c3:=c3 k hk
  unfold t76
  simp (disch:=first | exact dD _ | assumption) only [↓rK,rP,AL,c1,hix,hld,sO,c2,hix2,hld2,c3,hs2,hbr]
 ·simp only [List.mem_cons,List.not_mem_nil,or_false] at hs1
  rcases hs1 with rfl | rfl | rfl | rfl | rfl | rfl | rfl | rfl<;>first | exact BK (by decide) | exact (ED hv10).app (BK (by decide)) | exact (BK (by decide)).app (ED hv10) | exact ED hv10 | exact ED hu10
 ·simp only [List.mem_cons,List.not_mem_nil,or_false] at hs1
  rcases hs1 with rfl | rfl | rfl | rfl | rfl | rfl | rfl | rfl<;>simp
def FC (s:B) (lv Ch:Int):B:=if lv<Ch then [40]++s++[41] else s
theorem wF (call:SS.Call) (k:Nat) (s:B) (lv Ch:Int) (hs:s.length<1000000000) :
 ∃ σ,t125 call k [.agg [.str s,.int .i64 lv],.int .i64 Ch] .empty=some (.str (FC s lv Ch),σ):=by
 have hc:V.cellsF (.agg [.str s,.int .i64 lv])=[.str s,.int .i64 lv]:=by rw [V.zAB];rfl
 generalize hw:t125 call k [.agg [.str s,.int .i64 lv],.int .i64 Ch] .empty=w
 unfold t125 at hw
 unfold FC
 by_cases h:lv<Ch
 ·simp (disch:=first | exact dD _ | assumption) only [↓reduceIte,↓rK,rP,AL,hc,h] at hw
  rw [if_pos h]
  exact ⟨_,hw.symm⟩
 ·simp (disch:=first | exact dD _ | assumption) only [↓reduceIte,↓rK,rP,AL,hc,h] at hw
  rw [if_neg h]
  exact ⟨_,hw.symm⟩
theorem Zy (call:SS.Call) (k:Nat) (n:Int) (σ:St) (d:B) (h:call 66 [.int .i64 n] σ=some (.str d,σ)):t51 call k [.int .i64 n] σ=some (.str d,σ):=by
 unfold t51
 simp (disch:=first | exact dD _ | assumption) only [↓rK,rP,AL,h]
theorem U4: ∀ n,n<1000→(Bg n).length≤3:=by
 intro n hn
 unfold Bg
 split
 ·simp
 ·unfold Bg
  split
  ·simp
  ·unfold Bg
   split
   ·simp
   ·omega
theorem JP (n:Int) (h1: -999≤n) (h2:n≤999):(BX n).length≤4:=by
 unfold BX
 split
 ·have:=U4 (-n).toNat (by omega)
  simp;omega
 ·have:=U4 n.toNat (by omega)
  omega
theorem mQ:env.P.underlying 118=some (.array 4 9):=by kernel_rfl
theorem mB:CD env 118 [(0,(V.str [48])),(1,(V.str [49])),(2,(V.str [50])),(3,(V.str [48,48,55]))]=some (.agg [.str [48],.str [49],.str [50],.str [48,48,55]]):=by kernel_rfl
theorem dZ (a b c d:B) (n:Nat) (hn:n<4): ∃ s,s∈[a,b,c,d]∧C5 env 118 (.agg [.str a,.str b,.str c,.str d]) (.int .i64 (n:Int))=some (.str s):=by
 have:n=0∨n=1∨n=2∨n=3:=by omega
 rcases this with rfl | rfl | rfl | rfl
 ·exact ⟨a,by simp,by kernel_rfl⟩
 ·exact ⟨b,by simp,by kernel_rfl⟩
 ·exact ⟨c,by simp,by kernel_rfl⟩
 ·exact ⟨d,by simp,by kernel_rfl⟩
theorem U8 (n:Nat) (hn:n<3): ∃ v:UInt8,v≠10∧indexAt env 91 (.gptr 1 0) (.int .i64 (n:Int))=some (.gptr 1 n)∧∀ (σ:St) (K:V→Option (AEx×List V×St)),ld1 env (.gptr 1 n) 0 σ K=K (.str [v]):=by
 have hv: ∃ v:UInt8,v≠10∧([.str [112],.str [113],.str [114]]:List V)[n]? = some (.str [v]):=by
  have:n=0∨n=1∨n=2:=by omega
  rcases this with rfl | rfl | rfl
  ·exact ⟨112,by decide,rfl⟩
  ·exact ⟨113,by decide,rfl⟩
  ·exact ⟨114,by decide,rfl⟩
 obtain ⟨v,hv10,hvg⟩:=hv
 refine ⟨v,hv10,?_,fun σ K=>J9 (n:=0) (off:=n) U9 hvg rfl σ K⟩
 have:=J7 (g:=1) (off:=0) LD GL (n:=n) (by omega)
 rw [this];simp
theorem Pf (n:Nat) (hn:n<4): ∃ v:UInt8,v≠10∧indexAt env 118 (.gptr 2 0) (.int .i64 (n:Int))=some (.gptr 2 n)∧∀ (σ:St) (K:V→Option (AEx×List V×St)),ld1 env (.gptr 2 n) 0 σ K=K (.str [v]):=by
 have hv: ∃ v:UInt8,v≠10∧([.str [97],.str [98],.str [99],.str [100]]:List V)[n]? = some (.str [v]):=by
  have:n=0∨n=1∨n=2∨n=3:=by omega
  rcases this with rfl | rfl | rfl | rfl
  ·exact ⟨97,by decide,rfl⟩
  ·exact ⟨98,by decide,rfl⟩
  ·exact ⟨99,by decide,rfl⟩
  ·exact ⟨100,by decide,rfl⟩
 obtain ⟨v,hv10,hvg⟩:=hv
 refine ⟨v,hv10,?_,fun σ K=>J9 (n:=0) (off:=n) mR hvg rfl σ K⟩
 have:=J7 (g:=2) (off:=0) mQ GL (n:=n) (by omega)
 rw [this];simp
theorem PY {C:Nat→SS.Call} {l:List Int} {q:Nat} (hnx: ∀ (a:Nat) (m:Int) τ,a<1000000→0<m→m<1000→Fd τ q l a→∃ (r:Int) (σ:St) (a':Nat),(∀ k,1≤k→C k 73 [.ptr q 0 0,.int .i64 m] τ=some (.int .i64 r,σ))∧0≤r∧r<m∧Fed τ σ q l a a'∧a'≤a+1) (a:Nat) (ha:a<900000) (τ:St) (hq:Fd τ q l a) (kd:Int) (isN:Bool) :
 ∃ (s:B) (σ:St) (a':Nat),(∀ k,1≤k→t75_0 (C k) k [.ptr q 0 0,.int .i64 kd,.bool isN] τ=some (.ret,[.str s],σ))∧Bf s∧s.length≤3∧Fed τ σ q l a a'∧a'≤a+2:=by
 cases isN with
 | true =>
  obtain ⟨r,σ,a1,c1,r0,r1,f1,g1⟩:=hnx a 4 τ (by omega) (by omega) (by omega) hq
  obtain ⟨n,rfl⟩: ∃ n:Nat,r=(n:Int):=⟨r.toNat,by omega⟩
  obtain ⟨s,hs1,hs2⟩:=dZ [48] [49] [50] [48,48,55] n (by omega)
  refine ⟨s,σ,a1,fun k hk=>?_,?_,?_,f1,by omega⟩
  ·have c1:=c1 k hk
   unfold t75_0
   simp (disch:=first | exact dD _ | assumption) only [↓reduceIte,↓rK,rP,mB,c1,hs2]
  ·simp only [List.mem_cons,List.not_mem_nil,or_false] at hs1
   rcases hs1 with rfl | rfl | rfl | rfl<;>exact BK (by decide)
  ·simp only [List.mem_cons,List.not_mem_nil,or_false] at hs1
   rcases hs1 with rfl | rfl | rfl | rfl<;>simp
 | false =>
  obtain ⟨r,σ,a1,c1,r0,r1,f1,g1⟩:=hnx a 2 τ (by omega) (by omega) (by omega) hq
  obtain ⟨n,rfl⟩: ∃ n:Nat,r=(n:Int):=⟨r.toNat,by omega⟩
  by_cases h16:kd=16
  ·obtain ⟨r2,σ2,a2,c2,r3,r4,f2,g2⟩:=hnx a1 3 σ (by omega) (by omega) (by omega) f1.1
   obtain ⟨n2,rfl⟩: ∃ n:Nat,r2=(n:Int):=⟨r2.toNat,by omega⟩
   obtain ⟨v,hv10,hix,hld⟩:=U8 n (by omega)
   obtain ⟨u,hu10,hix2,hld2⟩:=Pf n2 (by omega)
   have hbr:V.beq (.str [v]) (.str [v])=true:=V.beq_refl _
   refine ⟨[v]++[64]++[u],σ2,a2,fun k hk=>?_,((ED hv10).app (BK (by decide))).app (ED hu10),by simp,f1.trans f2,by omega⟩
   have c1:=c1 k hk
   have c2:=c2 k hk
   unfold t75_0
   simp (disch:=first | exact dD _ | assumption) only [↓reduceIte,↓rK,rP,c1,hix,hld,c2,hix2,hld2,hbr,h16]
  ·obtain ⟨v,hv10,hix,hld⟩:=LC n (by omega)
   refine ⟨[v],σ,a1,fun k hk=>?_,ED hv10,by simp,f1,by omega⟩
   have c1:=c1 k hk
   unfold t75_0
   simp (disch:=first | exact dD _ | assumption) only [↓reduceIte,↓rK,rP,c1,hix,hld,h16]
theorem Uh {C:Nat→SS.Call} {l:List Int} {q:Nat} (hnx: ∀ (a:Nat) (m:Int) τ,a<1000000→0<m→m<1000→Fd τ q l a→∃ (r:Int) (σ:St) (a':Nat),(∀ k,1≤k→C k 73 [.ptr q 0 0,.int .i64 m] τ=some (.int .i64 r,σ))∧0≤r∧r<m∧Fed τ σ q l a a'∧a'≤a+1) (a:Nat) (ha:a<900000) (τ:St) (hq:Fd τ q l a) (d kd:Int) (h14:14≤kd) :
 ∃ (s:B) (σ:St) (a':Nat),(∀ k,1≤k→t75_1 (C k) k [.ptr q 0 0,.int .i64 d,.int .i64 kd] τ=some (.ret,[.str s],σ))∧Bf s∧s.length≤3∧Fed τ σ q l a a'∧a'≤a+2:=by
 by_cases he:kd=14
 ·obtain ⟨s,σ,a',h1,h2⟩:=PY hnx a ha τ hq kd true
  refine ⟨s,σ,a',fun k hk=>?_,h2⟩
  subst he
  have h1:=h1 k hk
  unfold t75_1
  simp (disch:=first | exact dD _ | assumption) only [↓reduceIte,↓rK,rP,h1]
 ·by_cases h15:kd=15
  ·obtain ⟨s,σ,a',h1,h2⟩:=PY hnx a ha τ hq kd true
   refine ⟨s,σ,a',fun k hk=>?_,h2⟩
   subst h15
   have h1:=h1 k hk
   unfold t75_1
   simp (disch:=first | exact dD _ | assumption) only [↓reduceIte,↓rK,rP,h1]
  ·obtain ⟨s,σ,a',h1,h2⟩:=PY hnx a ha τ hq kd false
   refine ⟨s,σ,a',fun k hk=>?_,h2⟩
   have h1:=h1 k hk
   unfold t75_1
   simp (disch:=first | exact dD _ | assumption) only [↓reduceIte,↓rK,rP,he,h15,h1]
theorem Rh:CD env 151 [(0,(V.str [43])),(1,(V.str [45])),(2,(V.str [42])),(3,(V.str [60])),(4,(V.str [60,61])),(5,(V.str [61,61])),(6,(V.str [33,61])),(7,(V.str [38,38])),(8,(V.str [124,124])),(9,(V.str [62])),(10,(V.str [62,61]))] =
 some (.agg [.str [43],.str [45],.str [42],.str [60],.str [60,61],.str [61,61],.str [33,61],.str [38,38],.str [124,124],.str [62],.str [62,61]]):=by kernel_rfl
theorem dY (n:Nat) (hn:n<11): ∃ s:B,Bf s∧s.length≤2∧C5 env 151 (.agg [.str [43],.str [45],.str [42],.str [60],.str [60,61],.str [61,61],.str [33,61],.str [38,38],.str [124,124],.str [62],.str [62,61]]) (.int .i64 (n:Int))=some (.str s):=by
 have:n=0∨n=1∨n=2∨n=3∨n=4∨n=5∨n=6∨n=7∨n=8∨n=9∨n=10:=by omega
 rcases this with rfl | rfl | rfl | rfl | rfl | rfl | rfl | rfl | rfl | rfl | rfl
 ·exact ⟨[43],BK (by decide),by decide,by kernel_rfl⟩
 ·exact ⟨[45],BK (by decide),by decide,by kernel_rfl⟩
 ·exact ⟨[42],BK (by decide),by decide,by kernel_rfl⟩
 ·exact ⟨[60],BK (by decide),by decide,by kernel_rfl⟩
 ·exact ⟨[60,61],BK (by decide),by decide,by kernel_rfl⟩
 ·exact ⟨[61,61],BK (by decide),by decide,by kernel_rfl⟩
 ·exact ⟨[33,61],BK (by decide),by decide,by kernel_rfl⟩
 ·exact ⟨[38,38],BK (by decide),by decide,by kernel_rfl⟩
 ·exact ⟨[124,124],BK (by decide),by decide,by kernel_rfl⟩
 ·exact ⟨[62],BK (by decide),by decide,by kernel_rfl⟩
 ·exact ⟨[62,61],BK (by decide),by decide,by kernel_rfl⟩
theorem oG {C:Nat→SS.Call} {l:List Int} {q:Nat} (hnx: ∀ (a:Nat) (m:Int) τ,a<1000000→0<m→m<1000→Fd τ q l a→∃ (r:Int) (σ:St) (a':Nat),(∀ k,1≤k→C k 73 [.ptr q 0 0,.int .i64 m] τ=some (.int .i64 r,σ))∧0≤r∧r<m∧Fed τ σ q l a a'∧a'≤a+1) (d:Nat) (hd:d<100) (A L:Nat) (hA:A<10000) (hL:L<100000) (N:Nat) (hN:N≤900000)
 (ih: ∀ a τ,a<N→Fd τ q l a→∃ (K:Nat) (s:B) (σ:St) (a':Nat),(∀ k,K≤k→C k 75 [.ptr q 0 0,.int .i64 ((d+1:Nat):Int)] τ=some (.str s,σ))∧Bf s∧s.length≤L∧Fed τ σ q l a a'∧a'≤a+A)
 (a:Nat) (ha:a+A<N) (τ:St) (hq:Fd τ q l a) (kd:Int) (hk:kd<10) :
 ∃ (K:Nat) (s:B) (σ:St) (a':Nat),(∀ k,K≤k→t75_1 (C k) k [.ptr q 0 0,.int .i64 (d:Int),.int .i64 kd] τ=some (.ret,[.str s],σ))∧Bf s∧s.length≤2*L+8∧Fed τ σ q l a a'∧a'≤a+2*A+2:=by
 obtain ⟨K1,s1,σ1,a1,c1,d1,e1,f1,g1⟩:=ih a τ (by omega) hq
 obtain ⟨K2,s2,σ2,a2,c2,d2,e2,f2,g2⟩:=ih a1 σ1 (by omega) f1.1
 obtain ⟨r,σ3,a3,c3,r0,r1,f3,g3⟩:=hnx a2 11 σ2 (by omega) (by omega) (by omega) f2.1
 obtain ⟨n,rfl⟩: ∃ n:Nat,r=(n:Int):=⟨r.toNat,by omega⟩
 obtain ⟨r2,σ4,a4,c4,r3,r4,f4,g4⟩:=hnx a3 2 σ3 (by omega) (by omega) (by omega) f3.1
 obtain ⟨w,w1,w2,w3⟩:=dY n (by omega)
 have ed:((d:Int)+1)=((d+1:Nat):Int):=by omega
 by_cases hz:r2=0
 ·refine ⟨K1+K2+1,[40]++s1++[41]++w++[40]++s2++[41],σ4,a4,fun k hk=>?_,?_,by simp;omega,((f1.trans f2).trans f3).trans f4,by omega⟩
  ·have c1:=c1 k (by omega)
   have c2:=c2 k (by omega)
   have c3:=c3 k (by omega)
   have c4:=c4 k (by omega)
   unfold t75_1
   simp (disch:=first | exact dD _ | assumption) only [↓reduceIte,↓rK,rP,ed,c1,c2,Rh,c3,w3,c4,hz]
  ·exact ((((((BK (by decide)).app d1).app (BK (by decide))).app w1).app (BK (by decide))).app d2).app (BK (by decide))
 ·refine ⟨K1+K2+1,[40]++s1++[32]++w++[32]++s2++[41],σ4,a4,fun k hk=>?_,?_,by simp;omega,((f1.trans f2).trans f3).trans f4,by omega⟩
  ·have c1:=c1 k (by omega)
   have c2:=c2 k (by omega)
   have c3:=c3 k (by omega)
   have c4:=c4 k (by omega)
   unfold t75_1
   simp (disch:=first | exact dD _ | assumption) only [↓reduceIte,↓rK,rP,ed,c1,c2,Rh,c3,w3,c4,hz]
  ·exact ((((((BK (by decide)).app d1).app (BK (by decide))).app w1).app (BK (by decide))).app d2).app (BK (by decide))
theorem oF {C:Nat→SS.Call} {l:List Int} {q:Nat} (d:Nat) (hd:d<100) (A L:Nat) (hA:A<10000) (hL:L<100000) (N:Nat) (_:N≤900000)
 (ih: ∀ a τ,a<N→Fd τ q l a→∃ (K:Nat) (s:B) (σ:St) (a':Nat),(∀ k,K≤k→C k 75 [.ptr q 0 0,.int .i64 ((d+1:Nat):Int)] τ=some (.str s,σ))∧Bf s∧s.length≤L∧Fed τ σ q l a a'∧a'≤a+A)
 (a:Nat) (ha:a+A<N) (τ:St) (hq:Fd τ q l a) (kd:Int) (hk:kd=10∨kd=11∨kd=12∨kd=13) :
 ∃ (K:Nat) (s:B) (σ:St) (a':Nat),(∀ k,K≤k→t75_1 (C k) k [.ptr q 0 0,.int .i64 (d:Int),.int .i64 kd] τ=some (.ret,[.str s],σ))∧Bf s∧s.length≤2*L+8∧Fed τ σ q l a a'∧a'≤a+2*A+2:=by
 obtain ⟨K1,s1,σ1,a1,c1,d1,e1,f1,g1⟩:=ih a τ (by omega) hq
 obtain ⟨K2,s2,σ2,a2,c2,d2,e2,f2,g2⟩:=ih a1 σ1 (by omega) f1.1
 have ed:((d:Int)+1)=((d+1:Nat):Int):=by omega
 rcases hk with rfl | rfl | rfl | rfl
 ·refine ⟨K1,[33,40]++s1++[41],σ1,a1,fun k hk=>?_,((BK (by decide)).app d1).app (BK (by decide)),by simp;omega,f1,by omega⟩
  have c1:=c1 k (by omega)
  unfold t75_1
  simp (disch:=first | exact dD _ | assumption) only [↓reduceIte,↓rK,rP,ed,c1]
 ·refine ⟨K1,[45,40]++s1++[41],σ1,a1,fun k hk=>?_,((BK (by decide)).app d1).app (BK (by decide)),by simp;omega,f1,by omega⟩
  have c1:=c1 k (by omega)
  unfold t75_1
  simp (disch:=first | exact dD _ | assumption) only [↓reduceIte,↓rK,rP,ed,c1]
 ·refine ⟨K1+K2,s1++[43]++s2,σ2,a2,fun k hk=>?_,(d1.app (BK (by decide))).app d2,by simp;omega,f1.trans f2,by omega⟩
  have c1:=c1 k (by omega)
  have c2:=c2 k (by omega)
  unfold t75_1
  simp (disch:=first | exact dD _ | assumption) only [↓reduceIte,↓rK,rP,ed,c1,c2]
 ·refine ⟨K1,[33,33]++s1,σ1,a1,fun k hk=>?_,(BK (by decide)).app d1,by simp;omega,f1,by omega⟩
  have c1:=c1 k (by omega)
  unfold t75_1
  simp (disch:=first | exact dD _ | assumption) only [↓reduceIte,↓rK,rP,ed,c1]
def bA:Nat→Nat
 | 0=>3
 | r+1=>2*bA r+3
def bL:Nat→Nat
 | 0=>3
 | r+1=>2*bL r+8
theorem Rc: ∀ r,r≤4→3≤bA r∧bA r<1000:=by
 intro r hr
 have:r=0∨r=1∨r=2∨r=3∨r=4:=by omega
 rcases this with rfl | rfl | rfl | rfl | rfl<;>decide
theorem Re: ∀ r,r≤4→3≤bL r∧bL r<1000:=by
 intro r hr
 have:r=0∨r=1∨r=2∨r=3∨r=4:=by omega
 rcases this with rfl | rfl | rfl | rfl | rfl<;>decide
theorem aQ {C:Nat→SS.Call} {l:List Int} {q:Nat} (hC: ∀ k vs σ,C (k+1) 75 vs σ=t75 (C k) k vs σ)
 (hnx: ∀ (a:Nat) (m:Int) τ,a<1000000→0<m→m<1000→Fd τ q l a→∃ (r:Int) (σ:St) (a':Nat),(∀ k,1≤k→C k 73 [.ptr q 0 0,.int .i64 m] τ=some (.int .i64 r,σ))∧0≤r∧r<m∧Fed τ σ q l a a'∧a'≤a+1) :
 ∀ r d:Nat,d+r=4→∀ a τ,a<500000+d*1000→Fd τ q l a→∃ (K:Nat) (s:B) (σ:St) (a':Nat),(∀ k,K≤k→C k 75 [.ptr q 0 0,.int .i64 (d:Int)] τ=some (.str s,σ))∧Bf s∧s.length≤bL r∧Fed τ σ q l a a'∧a'≤a+bA r:=by
 intro r
 induction r with
 | zero =>
  intro d hd a τ ha hq
  obtain ⟨x,σ1,a1,c1,x0,x1,f1,g1⟩:=hnx a 20 τ (by omega) (by omega) (by omega) hq
  have hb:=f1.1
  unfold Fd at hb
  obtain ⟨n,rfl⟩: ∃ n:Nat,x=(n:Int):=⟨x.toNat,by omega⟩
  have hr: ∀ K:Int→Res,DZ (n:Int) 6 K=K ((n % 6:Nat):Int):=fun K=>LP n 6 K (by omega)
  obtain ⟨s,σ2,a2,c2,d2,e2,f2,g2⟩:=Uh hnx a1 (by omega) σ1 f1.1 (d:Int) (14+((n % 6:Nat):Int)) (by omega)
  refine ⟨2,s,σ2,a2,fun k hk=>?_,d2,e2,f1.trans f2,by show a2≤a+3;omega⟩
  obtain ⟨k,rfl⟩: ∃ k',k=k'+1:=⟨k - 1,by omega⟩
  have c1:=c1 k (by omega)
  have c2:=c2 k (by omega)
  have h4:((3:Int)<(d:Int)):=by omega
  rw [hC]
  unfold t75
  simp (disch:=first | exact dD _ | assumption) only [↓reduceIte,↓rK,rP,AL,c1,hb,h4,hr,c2]
 | succ r ih =>
  intro d hd a τ ha hq
  obtain ⟨x,σ1,a1,c1,x0,x1,f1,g1⟩:=hnx a 20 τ (by omega) (by omega) (by omega) hq
  have hb:=f1.1
  unfold Fd at hb
  obtain ⟨n,rfl⟩: ∃ n:Nat,x=(n:Int):=⟨x.toNat,by omega⟩
  have hr: ∀ K:Int→Res,DZ (n:Int) 6 K=K ((n % 6:Nat):Int):=fun K=>LP n 6 K (by omega)
  obtain ⟨hA0,hA1⟩:=Rc r (by omega)
  obtain ⟨hL0,hL1⟩:=Re r (by omega)
  have eA:bA (r+1)=2*bA r+3:=rfl
  have eL:bL (r+1)=2*bL r+8:=rfl
  have h4:¬((3:Int)<(d:Int)):=by omega
  have ih':=ih (d+1) (by omega)
  have fin: ∀ (kd:Int),(∀ k,2≤k→C k 75 [.ptr q 0 0,.int .i64 (d:Int)] τ=Ag (Bu (some (.norm,[.ptr q 0 0,.int .i64 (d:Int),.int .i64 kd],σ1)) (t75_1 (C (k - 1)) (k - 1)))) →
   (∃ (K:Nat) (s:B) (σ:St) (a':Nat),(∀ k,K≤k→t75_1 (C k) k [.ptr q 0 0,.int .i64 (d:Int),.int .i64 kd] σ1=some (.ret,[.str s],σ))∧Bf s∧s.length≤2*bL r+8∧Fed σ1 σ q l a1 a'∧a'≤a1+2*bA r+2) →
   ∃ (K:Nat) (s:B) (σ:St) (a':Nat),(∀ k,K≤k→C k 75 [.ptr q 0 0,.int .i64 (d:Int)] τ=some (.str s,σ))∧Bf s∧s.length≤bL (r+1)∧Fed τ σ q l a a'∧a'≤a+bA (r+1):=by
   rintro kd he ⟨K,s,σ,a',h1,h2,h3,h4,h5⟩
   refine ⟨K+2,s,σ,a',fun k hk=>?_,h2,by omega,f1.trans h4,by omega⟩
   rw [he k (by omega),J6,h1 (k - 1) (by omega)];rfl
  have leaf: ∀ kd:Int,14≤kd→∃ (K:Nat) (s:B) (σ:St) (a':Nat),(∀ k,K≤k→t75_1 (C k) k [.ptr q 0 0,.int .i64 (d:Int),.int .i64 kd] σ1=some (.ret,[.str s],σ))∧Bf s∧s.length≤2*bL r+8∧Fed σ1 σ q l a1 a'∧a'≤a1+2*bA r+2:=by
   intro kd hk
   obtain ⟨s,σ2,a2,c2,d2,e2,f2,g2⟩:=Uh hnx a1 (by omega) σ1 f1.1 (d:Int) kd hk
   exact ⟨1,s,σ2,a2,c2,d2,by omega,f2,by omega⟩
  by_cases h14:(14:Int)<(a1:Int)
  ·refine fin (14+((n % 6:Nat):Int)) (fun k hk=>?_) (leaf _ (by omega))
   obtain ⟨k,rfl⟩: ∃ k',k=k'+1:=⟨k - 1,by omega⟩
   have c1:=c1 k (by omega)
   rw [hC,Nat.add_sub_cancel]
   unfold t75
   simp (disch:=first | exact dD _ | assumption) only [↓reduceIte,↓rK,rP,c1,hb,h4,h14,hr]
  ·refine fin (n:Int) (fun k hk=>?_) ?_
   ·obtain ⟨k,rfl⟩: ∃ k',k=k'+1:=⟨k - 1,by omega⟩
    have c1:=c1 k (by omega)
    rw [hC,Nat.add_sub_cancel]
    unfold t75
    simp (disch:=first | exact dD _ | assumption) only [↓reduceIte,↓rK,rP,c1,hb,h4,h14]
   ·by_cases hl:(14:Int)≤(n:Int)
    ·exact leaf _ hl
    ·by_cases h10:(n:Int)<10
     ·exact oG hnx d (by omega) (bA r) (bL r) (by omega) (by omega) (500000+(d+1)*1000) (by omega) ih' a1 (by omega) σ1 f1.1 _ h10
     ·exact oF d (by omega) (bA r) (bL r) (by omega) (by omega) (500000+(d+1)*1000) (by omega) ih' a1 (by omega) σ1 f1.1 _ (by omega)
end Go.Proofs.YtglndmmlghpdpaaGreatDoor
namespace SS
open Go
theorem N8 (d:Nat) (h:d<10):by8 (UInt8.ofNat (48+d))=48+(d:Int):=by
 have:d=0∨d=1∨d=2∨d=3∨d=4∨d=5∨d=6∨d=7∨d=8∨d=9:=by omega
 rcases this with rfl | rfl | rfl | rfl | rfl | rfl | rfl | rfl | rfl | rfl<;>decide
theorem OY (d:Nat) (h:d<10):UInt8.ofNat (48+d)≠45∧UInt8.ofNat (48+d)≠32:=by
 have:d=0∨d=1∨d=2∨d=3∨d=4∨d=5∨d=6∨d=7∨d=8∨d=9:=by omega
 rcases this with rfl | rfl | rfl | rfl | rfl | rfl | rfl | rfl | rfl | rfl<;>decide
theorem MZ (n:Nat) (hn:n<1000): ∃ ds:List Nat,(∀ d∈ds,d<10)∧ds≠[]∧ds.length≤3∧Bg n=ds.map (fun d=>UInt8.ofNat (48+d))∧ds.foldl (fun a d=>10*a+d) 0=n:=by
 by_cases h1:n<10
 ·exact ⟨[n],by simpa using h1,by simp,by simp,by unfold Bg;rw [if_pos h1];rfl,by simp⟩
 ·by_cases h2:n<100
  ·refine ⟨[n / 10,n % 10],?_,by simp,by simp,?_,by simp;omega⟩
   ·intro d hd;simp at hd;omega
   ·unfold Bg;rw [if_neg h1];unfold Bg;rw [if_pos (by omega)];rfl
  ·refine ⟨[n / 100,n / 10 % 10,n % 10],?_,by simp,by simp,?_,by simp;omega⟩
   ·intro d hd;simp at hd;omega
   ·unfold Bg;rw [if_neg h1];unfold Bg;rw [if_neg (by omega)];unfold Bg;rw [if_pos (by omega),Nat.div_div_eq_div_mul];rfl
theorem vX (ds:List Nat) (h: ∀ d∈ds,d<10):Dp (ds.map fun d=>UInt8.ofNat (48+d))=((ds.foldl (fun a d=>10*a+d) 0:Nat):Int):=by
 have key: ∀ (ds:List Nat) (a:Nat),(∀ d∈ds,d<10)→(ds.map fun d=>UInt8.ofNat (48+d)).foldl (fun n c=>10*n+(by8 c - 48)) (a:Int)=((ds.foldl (fun a d=>10*a+d) a:Nat):Int):=by
  intro ds
  induction ds with
  | nil=>intro a _;rfl
  | cons d r ih =>
   intro a h
   rw [List.map_cons,List.foldl_cons,List.foldl_cons,N8 d (h d (by simp)),←ih (10*a+d) fun x hx=>h x (by simp [hx])]
   congr 1
   omega
 exact key ds 0 h
theorem RQ (n:Nat) (hn:n<1000):Bz (Bg n)=((n:Int),true):=by
 obtain ⟨ds,h1,h2,h3,h4,h5⟩:=MZ n hn
 have h6:=vX ds h1
 rw [h5] at h6
 have hd:(Bg n).all (fun c=>Bq (by8 c))=true:=by
  rw [h4,List.all_eq_true]
  intro c hc
  obtain ⟨d,hd,rfl⟩:=List.mem_map.1 hc
  have:=h1 d hd
  rw [N8 d this]
  unfold Bq
  simp;omega
 have hl:(Bg n).length=ds.length:=by rw [h4,List.length_map]
 have h0:0<ds.length:=List.length_pos_iff.2 h2
 unfold Bz
 rw [hd,hl,decide_eq_true h3,h4,h6,decide_eq_true h0];rfl
theorem Ma (n:Nat) (hn:n<1000): ∃ c r,Bg n=c :: r∧c≠45∧c≠32∧∀ d∈r,d≠32:=by
 obtain ⟨ds,h1,h2,h3,h4,h5⟩:=MZ n hn
 match ds,h2 with
 | d :: r,_ =>
  refine ⟨_,_,h4,(OY d (h1 d (by simp))).1,(OY d (h1 d (by simp))).2,fun x hx=>?_⟩
  obtain ⟨y,hy,rfl⟩:=List.mem_map.1 hx
  exact (OY y (h1 y (by simp [hy]))).2
theorem YX (k:Int) (h1: -999≤k) (h2:k≤999):CE (BX k) true=(k,true):=by
 unfold BX
 by_cases h:k<0
 ·rw [if_pos h]
  obtain ⟨c,r,e,_⟩:=Ma (-k).toNat (by omega)
  have ha:=RQ (-k).toNat (by omega)
  rw [e] at ha ⊢
  show (if true&&decide ((45:UInt8)=45) then (-(Bz (c :: r)).1,(Bz (c :: r)).2) else Bz (45 :: c :: r))=_
  rw [ha]
  simp
  omega
 ·rw [if_neg h]
  obtain ⟨c,r,e,hc,_⟩:=Ma k.toNat (by omega)
  have ha:=RQ k.toNat (by omega)
  have hk:((k.toNat:Nat):Int)=k:=by omega
  rw [e] at ha ⊢
  rw [hk] at ha
  cases r with
  | nil=>exact ha
  | cons d r =>
   show (if true&&decide (c=45) then _ else Bz (c :: d :: r))=_
   rw [decide_eq_false hc]
   exact ha
theorem Zu (k:Int) (h1: -999≤k) (h2:k≤999): ∀ c∈BX k,c≠32:=by
 unfold BX
 split
 ·obtain ⟨c,r,e,_,hc,hr⟩:=Ma (-k).toNat (by omega)
  rw [e]
  intro x hx
  simp at hx
  rcases hx with rfl | rfl | hx
  ·decide
  ·exact hc
  ·exact hr x hx
 ·obtain ⟨c,r,e,_,hc,hr⟩:=Ma k.toNat (by omega)
  rw [e]
  intro x hx
  simp at hx
  rcases hx with rfl | hx
  ·exact hc
  ·exact hr x hx
theorem WX: ∀ (b:Bool) (s:B),GN b s=true→∀ c∈s,c≠32
 | _,[],_,c,hc=>by simp at hc
 | b,d :: r,h,c,hc=>by
  unfold GN at h
  rw [Bool.and_eq_true] at h
  rcases List.mem_cons.1 hc with rfl | hc
  ·rintro rfl
   revert h
   cases b<;>simp [CW,Bq,by8]
  ·exact WX false r h.2 c hc
theorem kT {s:B} (h:isWord s=true): ∀ c∈s,c≠32:=by
 unfold isWord at h
 rw [Bool.and_eq_true] at h
 exact WX true s h.1
end SS
namespace Go.Proofs.YtglndmmlghpdpaaGreatDoor
open Go SS
set_option maxRecDepth 100000
structure Spk where
 s:B
 lv:Int
def FY:Ty Spk where
 enc x:=.agg [.str x.s,.int .i64 x.lv]
 inj a b h:=by cases a;cases b;simp_all
 zero a:=rfl
theorem GK:(env.P.info? 180).map (·.size)=some 2:=by kernel_rfl
theorem WJ:env.P.underlying 178=some (.slice 180):=by kernel_rfl
def Mr:List B:=[[],[],[],[],[33],[45],[42],[43],[45],[60],[60,61],[62],[62,61],[61,61],[33,61],[38,38],[124,124]]
def FQ (op:Int):B:=(Mr[op.toNat]?).getD []
theorem QH (op:Int):(FQ op).length≤2:=by
 unfold FQ
 by_cases h:op.toNat<17
 ·have: ∀ n,n<17→((Mr[n]?).getD []).length≤2:=by decide
  exact this _ h
 ·rw [List.getElem?_eq_none (by show 17≤_;omega)];simp
def FN (t:Al):B:=if t.op=1 then BX t.n else if t.op=2 then t.name else t.name++[64]++t.loc
def Gb (op:Int):Int:=if strength op=3 then 4 else strength op
def D4 (st:List Spk) (t:Al):Option (List Spk) :=
 if arity t.op=0 then some (st++[⟨FN t,strength t.op⟩])
 else if arity t.op=1 then
  if h:1≤st.length then some (st.take (st.length - 1)++[⟨FQ t.op++FC st[st.length - 1].s st[st.length - 1].lv (strength t.op),strength t.op⟩]) else none
 else if h:2≤st.length then
  some (st.take (st.length - 2)++[⟨FC st[st.length - 2].s st[st.length - 2].lv (Gb t.op)++FQ t.op++FC st[st.length - 1].s st[st.length - 1].lv (strength t.op+1),strength t.op⟩])
 else none
def GI:List Spk→List Al→Option (List Spk)
 | st,[]=>some st
 | st,t :: l=>match D4 st t with
  | some st'=>GI st' l
  | none=>none
def D3 (l:List Al):B:=if Ck l then (match GI [] l with | some (a :: _)=>a.s | _=>[]) else []
def tot (st:List Spk):Nat:=(st.map fun x=>x.s.length).sum
theorem M3 (a b:List Spk):tot (a++b)=tot a+tot b:=by simp [tot]
theorem J3 (s:B) (a b:Int):(FC s a b).length≤s.length+2:=by
 unfold FC;split<;>simp
theorem WA (st:List Spk) (m:Nat):tot st=tot (st.take m)+tot (st.drop m):=by
 rw [←M3,List.take_append_drop]
theorem V8 (st:List Spk) (h:1≤st.length):tot st=tot (st.take (st.length - 1))+st[st.length - 1].s.length:=by
 rw [WA st (st.length - 1),List.drop_eq_getElem_cons (by omega),show st.length - 1+1=st.length by omega,List.drop_length]
 simp [tot]
theorem V9 (st:List Spk) (h:2≤st.length):tot st=tot (st.take (st.length - 2))+(st[st.length - 2].s.length+st[st.length - 1].s.length):=by
 have e1:st.length - 2+1=st.length - 1:=by omega
 rw [WA st (st.length - 2),List.drop_eq_getElem_cons (by omega)]
 simp only [e1]
 rw [List.drop_eq_getElem_cons (show st.length - 1<st.length by omega),show st.length - 1+1=st.length by omega,List.drop_length]
 simp [tot]
theorem Ub: ∀ (l:List Al) (n k:Int),DK l n=some k→∀ t∈l,t.may=true
 | [],_,_,_,t,ht=>by simp at ht
 | a :: l,n,k,h,t,ht=>by
  have h:(if a.may=true∧arity a.op≤n then DK l (n - arity a.op+1) else none)=some k:=h
  split at h
  ·rename_i hc
   rcases List.mem_cons.1 ht with rfl | ht
   ·exact hc.1
   ·exact Ub l _ _ h t ht
  ·cases h
theorem Uc {l:List Al} (h:Ck l=true): ∀ t∈l,t.may=true:=by
 unfold Ck at h
 rw [Bool.and_eq_true,beq_iff_eq] at h
 exact Ub l 0 1 h.1
theorem Kb {s:B} (h:isWord s=true):s.length≤8:=by
 unfold isWord at h
 rw [Bool.and_eq_true,Bool.and_eq_true] at h
 simpa using h.2.2
theorem UI {t:Al} (h:t.may=true) (ha:arity t.op=0):(FN t).length≤20:=by
 unfold arity at ha
 unfold Al.may at h
 unfold FN
 by_cases h1:t.op=1
 ·rw [if_pos h1] at h ⊢
  have h2:0≤t.n∧t.n≤999:=by grind
  have:=JP t.n (by omega) h2.2
  omega
 ·rw [if_neg h1] at h ⊢
  by_cases h2:t.op=2
  ·rw [if_pos h2] at h ⊢
   have:=Kb (s:=t.name) (by grind)
   omega
  ·rw [if_neg h2] at h ⊢
   have h3:t.op=3:=by
    split at ha
    ·omega
    ·split at ha
     ·cases ha
     ·split at ha<;>cases ha
   rw [if_pos h3] at h
   have h4:=Kb (s:=t.name) (by grind)
   have h5:=Kb (s:=t.loc) (by grind)
   simp;omega
theorem VZ {st st':List Spk} {t:Al} (h:D4 st t=some st') (hm:t.may=true):tot st'≤tot st+20:=by
 unfold D4 at h
 have hs:=QH t.op
 split at h
 ·rename_i ha
  cases h
  rw [M3]
  have:=UI hm ha
  simp [tot];omega
 ·split at h
  ·split at h
   ·rename_i hl
    cases h
    rw [M3,V8 st hl]
    have:=J3 st[st.length - 1].s st[st.length - 1].lv (strength t.op)
    simp [tot];omega
   ·cases h
  ·split at h
   ·rename_i hl
    cases h
    rw [M3,V9 st hl]
    have:=J3 st[st.length - 1].s st[st.length - 1].lv (strength t.op+1)
    have:=J3 st[st.length - 2].s st[st.length - 2].lv (Gb t.op)
    simp [tot];omega
   ·cases h
theorem VY: ∀ (l:List Al) (st st':List Spk),(∀ t∈l,t.may=true)→GI st l=some st'→tot st'≤tot st+20*l.length
 | [],st,st',_,h=>by cases h;simp
 | t :: l,st,st',hm,h=>by
  have h:(match D4 st t with | some st'=>GI st' l | none=>none)=some st':=h
  split at h
  ·rename_i st2 h2
   have h3:=VZ h2 (hm t (by simp))
   have h4:=VY l st2 st' (fun t ht=>hm t (by simp [ht])) h
   simp only [List.length_cons];omega
  ·cases h
theorem U7 (l:List Al):(D3 l).length≤100000:=by
 unfold D3
 split
 ·rename_i hr
  have hl:l.length≤30:=by
   unfold Ck at hr
   rw [Bool.and_eq_true] at hr
   simpa using hr.2
  split
  ·rename_i a r h
   have:=VY l [] (a :: r) (Uc hr) h
   simp [tot] at this;omega
  ·simp
 ·simp
def Gl:List V:=Mr.map V.str
theorem sF:env.P.underlying 76=some (.array 17 9):=by kernel_rfl
theorem Vk {t:Al} (h:4≤t.op∧t.op≤16): ∃ n:Nat,indexAt env 76 (.ptr 0 0 0) (.int .i64 t.op)=some (.ptr 0 0 n)∧∀ (σ:St) (K:V→Option (AEx×List V×St)),σ.get 0=some (.blk Gl 76 0 false)→ld1 env (.ptr 0 0 n) 0 σ K=K (.str (FQ t.op)):=by
 obtain ⟨n,hn⟩: ∃ n:Nat,t.op=(n:Int):=⟨t.op.toNat,by omega⟩
 refine ⟨n,?_,fun σ K hg=>?_⟩
 ·rw [hn,Qs (b:=0) (ver:=0) (off:=0) sF GL (n:=n) (by omega)];simp
 ·rw [LK,hg,Qt]
  have hlt:n<Mr.length:=by show n<17;omega
  have:Gl[n+0]? = some (.str (FQ t.op)):=by
   unfold Gl FQ
   rw [hn,Int.toNat_natCast,Nat.add_zero,List.getElem?_map,List.getElem?_eq_getElem hlt]
   rfl
  rw [this];rfl
def KH (τ:St) (v:V) (st:List Spk) (b:Nat):Prop:=τ.get 0=some (.blk Gl 76 0 false)∧0<τ.n∧Cr τ 180 2 v st.length (rows FY st) b∧b≠0
structure Q6 (call:SS.Call):Prop where
 strength: ∀ (n:Int) τ,call 124 [.int .i64 n] τ=some (.int .i64 (strength n),τ)
 arity: ∀ (n:Int) τ,call 103 [.int .i64 n] τ=some (.int .i64 (arity n),τ)
 decimal: ∀ (n:Int) τ,-1000000≤n→n≤1000000→call 66 [.int .i64 n] τ=some (.str (BX n),τ)
 within: ∀ (s:B) (lv Ch:Int) τ,s.length<1000000000→call 125 [.agg [.str s,.int .i64 lv],.int .i64 Ch] τ=some (.str (FC s lv Ch),τ)
theorem Eg {R:Type} {a b:V} (ha:a.one=true) (hb:b.one=true) (K:List V→Option R):agN 2 (.agg [a,b]) K=K [a,b]:=by
 have e: ∀ v:V,v.one=true→V.isOne v=true:=fun v h=>by rw [V.zAH];exact h
 unfold agN
 show gd (Nat.beq (BN [a,b]) 2) (gd (Ew V.isOne [a,b]) (K [a,b]))=_
 have h1:BN [a,b]=2:=by rw [Bv];rfl
 rw [h1]
 have h2:Ew V.isOne [a,b]=true:=by
  unfold Ew
  simp only [e a ha,e b hb]
 rw [h2];rfl
theorem Spk.zAC (x:Spk):FY.enc x=.agg [.str x.s,.int .i64 x.lv]:=rfl
theorem RX (n:Int):(arity n=0∧1≤n∧n≤3)∨(arity n=1∧4≤n∧n≤5)∨(arity n=2∧6≤n∧n≤16)∨arity n=-1:=by
 unfold arity
 split
 ·exact .inl ⟨rfl,by omega,by omega⟩
 ·split
  ·exact .inr (.inl ⟨rfl,by omega,by omega⟩)
  ·split
   ·exact .inr (.inr (.inl ⟨rfl,by omega,by omega⟩))
   ·exact .inr (.inr (.inr rfl))
theorem Ua {t:Al} (h:t.may=true):arity t.op≠-1:=by
 intro ha
 unfold Al.may at h
 unfold arity at ha h
 grind
set_option maxHeartbeats 16000000 in
theorem p8 {call:SS.Call} (h:Q6 call) {k:Nat} (l:List Al) (hs:Cg l) (i:Nat) (hi:i<l.length) (hm:l[i].may=true) (v:V) (st:List Spk) (b:Nat) (τ:St) (hI:KH τ v st b) (hst:st.length≤1000) (htot:tot st≤1000000) :
 (∃ st' v' b' σ,D4 st l[i]=some st'∧t101_3 call k [(AA Ae).enc l,v,.ptr 0 0 0,.int .i64 (i:Int)] τ=some (.norm,[(AA Ae).enc l,v',.ptr 0 0 0,.int .i64 ((i+1:Nat):Int)],σ)∧KH σ v' st' b'∧st'.length≤st.length+1) ∨
 (∃ σ,D4 st l[i]=none∧t101_3 call k [(AA Ae).enc l,v,.ptr 0 0 0,.int .i64 (i:Int)] τ=some (.ret,[.str []],σ)):=by
 obtain ⟨hg,hn,hL,hb0⟩:=hI
 have hlen:=hs.1
 have h1:=h.strength;have h2:=h.arity;have h3:=h.decimal;have h4:=h.within
 obtain ⟨b1,hL1,hb1⟩:=mZ 5 hL
 have far: ∀ (x:B) c,c<τ.n→((((τ.new (.blk [.int .i64 0,.int .i64 0,.str [],.str []] 122 0 false)).put τ.n (.blk [.int .i64 l[i].op,.int .i64 l[i].n,.str l[i].name,.str l[i].loc] 122 0 false)).new (.blk [.str [],.int .i64 0] 180 0 false)).put (τ.n+1) (.blk [.str [],.int .i64 (strength l[i].op)] 180 0 false)).get c=τ.get c:=fun x c hc=>by
  simp (disch:=omega) only [St.zAG,St.zAE,Au,AZ,if_neg]
 have hsaid: ∀ x:B,((((τ.new (.blk [.int .i64 0,.int .i64 0,.str [],.str []] 122 0 false)).put τ.n (.blk [.int .i64 l[i].op,.int .i64 l[i].n,.str l[i].name,.str l[i].loc] 122 0 false)).new (.blk [.str [],.int .i64 0] 180 0 false)).put (τ.n+1) (.blk [.str [],.int .i64 (strength l[i].op)] 180 0 false)).n=τ.n+2:=fun x=>rfl
 generalize hS2:(((τ.new (.blk [.int .i64 0,.int .i64 0,.str [],.str []] 122 0 false)).put τ.n (.blk [.int .i64 l[i].op,.int .i64 l[i].n,.str l[i].name,.str l[i].loc] 122 0 false)).new (.blk [.str [],.int .i64 0] 180 0 false)).put (τ.n+1) (.blk [.str [],.int .i64 (strength l[i].op)] 180 0 false)=S2 at far hsaid
 have far:=far []
 have hsaid:=hsaid []
 have g0:S2.get 0=some (.blk Gl 76 0 false):=by rw [far 0 hn];exact hg
 have gT:S2.get τ.n=some (.blk [.int .i64 l[i].op,.int .i64 l[i].n,.str l[i].name,.str l[i].loc] 122 0 false):=by
  rw [←hS2];simp (disch:=omega) only [St.zAG,St.zAE,Au,AZ,if_neg,if_true,eq_self]
 have gS:S2.get (τ.n+1)=some (.blk [.str [],.int .i64 (strength l[i].op)] 180 0 false):=by
  rw [←hS2];simp (disch:=omega) only [St.zAG,St.zAE,Au,AZ,if_neg,if_true,eq_self]
 have hL2:Cr S2 180 2 v st.length (rows FY st) b1:=hL1.of (fun hc=>far _ (by omega)) (by omega)
 have hln: ∀ K:Int→Option (AEx×List V×St),lnK v K=K (st.length:Int):=fun K=>hL.len K
 generalize hw:t101_3 call k [(AA Ae).enc l,v,.ptr 0 0 0,.int .i64 (i:Int)] τ=w
 unfold t101_3 at hw
 have add: ∀ (x:B) (v2:V) (st2:List Spk) (b2:Nat),b2=b1→Cr (S2.put (τ.n+1) (.blk [.str x,.int .i64 (strength l[i].op)] 180 0 false)) 180 2 v2 st2.length (rows FY st2) b2→st2.length≤1000→∃ v' b' σ,(∀ K:V→St→Option (AEx×List V×St),BQ 180 2 1 [.str x,.int .i64 (strength l[i].op)] v2 (S2.put (τ.n+1) (.blk [.str x,.int .i64 (strength l[i].op)] 180 0 false)) K=K v' σ)∧KH σ v' (st2++[⟨x,strength l[i].op⟩]) b':=by
  intro x v2 st2 b2 hb2 hL4 hl3
  obtain ⟨v',b',σ,a1,a2,a3,a4,a5,a6⟩:=mY (new:=(FY.enc ⟨x,strength l[i].op⟩).cells) hL4 (by omega) rfl (by decide) rfl
  rw [Au] at a3 a4 a5
  refine ⟨v',b',σ,fun K=>a1 K,?_,by omega,?_,by omega⟩
  ·rw [a4 0 (by omega) (by omega),St.zAG,if_neg (by omega)];exact g0
  ·rw [DL,List.length_append];exact a2
 have hL3: ∀ x,Cr (S2.put (τ.n+1) (.blk [.str x,.int .i64 (strength l[i].op)] 180 0 false)) 180 2 v st.length (rows FY st) b1:=fun x=>hL2.of (fun hc=>by rw [St.zAG,if_neg (by omega)]) (Nat.le_refl _)
 rcases RX l[i].op with ⟨ha,ho1,ho2⟩ | ⟨ha,ho1,ho2⟩ | ⟨ha,ho1,ho2⟩ | ha
 ·
  have hleaf:=UI hm ha
  obtain ⟨v',b',σ,a1,a2⟩:=add (FN l[i]) v st b1 rfl (hL3 _) hst
  have hsay:D4 st l[i]=some (st++[⟨FN l[i],strength l[i].op⟩]):=by unfold D4;rw [if_pos ha]
  refine .inl ⟨_,v',b',σ,hsay,?_,a2,by simp⟩
  have hn1:l[i].op=1→0≤l[i].n∧l[i].n≤999:=by intro e;unfold Al.may at hm;grind
  have hw2:=hs.2 _ (List.getElem_mem hi)
  unfold t101_0 t101_2 at hw
  by_cases e1:l[i].op=1
  ·have hlf:FN l[i]=BX l[i].n:=by unfold FN;rw [if_pos e1]
   rw [hlf] at a1
   have hd:=h3 l[i].n S2 (by have:=hn1 e1;omega) (by have:=hn1 e1;omega)
   have e1':=eq_true e1
   simp (disch:=first | exact dD _ | assumption) only [↓reduceIte,↓rK,rP,Nat.reduceAdd,Av Cv,Av GK,h1,h2,↓BB,BB,hln,ha,hS2,gT,gS,Eg,↓Eg,e1',hd,a1] at hw
   rw [←hw];rfl
  ·have e1':=eq_false e1
   by_cases e2:l[i].op=2
   ·have e2':=eq_true e2
    have hlf:FN l[i]=l[i].name:=by unfold FN;rw [if_neg e1,if_pos e2]
    rw [hlf] at a1
    simp (disch:=first | exact dD _ | assumption) only [↓reduceIte,↓rK,rP,Nat.reduceAdd,Av Cv,Av GK,h1,h2,↓BB,BB,hln,ha,hS2,gT,gS,Eg,↓Eg,e1',e2',a1] at hw
    rw [←hw];rfl
   ·have e2':=eq_false e2
    have hlf:FN l[i]=l[i].name++[64]++l[i].loc:=by unfold FN;rw [if_neg e1,if_neg e2]
    rw [hlf] at a1
    simp (disch:=first | exact dD _ | assumption) only [↓reduceIte,↓rK,rP,Nat.reduceAdd,Av Cv,Av GK,h1,h2,↓BB,BB,hln,ha,hS2,gT,gS,Eg,↓Eg,e1',e2',a1] at hw
    rw [←hw];rfl
 ·
  have ha0:¬arity l[i].op=0:=by omega
  have hsg:=QH l[i].op
  obtain ⟨sn,hix,hsd⟩:=Vk (t:=l[i]) ⟨by omega,by omega⟩
  have hsd2: ∀ K:V→Option (AEx×List V×St),ldG (S2.get 0) 0 (sn+0) K=K (.str (FQ l[i].op)):=fun K=>(LK 0 0 sn 0 K).symm.trans (hsd S2 K g0)
  by_cases hl1:1≤st.length
  ·have hlt:¬((st.length:Int)<1):=by omega
   have e1:(st.length:Int) - 1=((st.length - 1:Nat):Int):=by omega
   have htc:=V8 st hl1
   have hwl:=J3 st[st.length - 1].s st[st.length - 1].lv (strength l[i].op)
   have hld:=fun (K:V→Option (AEx×List V×St))=>hL2.ldT (t:=FY) (fun _=>rfl) (n:=st.length - 1) (by omega) rfl K
   rw [Spk.zAC] at hld
   have hwi:=h4 st[st.length - 1].s st[st.length - 1].lv (strength l[i].op) S2 (by omega)
   generalize hX:FQ l[i].op++FC st[st.length - 1].s st[st.length - 1].lv (strength l[i].op)=X
   obtain ⟨v2,c1,c2⟩:=US (E:=env) (t:=178) (m:=st.length - 1) (hL3 X) WJ GK (by decide) (by omega) (by omega)
   rw [VU (fun _=>rfl) st _ (by omega)] at c2
   have hlen2:(st.take (st.length - 1)).length=st.length - 1:=by rw [List.length_take];omega
   obtain ⟨v',b',σ,a1,a2⟩:=add X v2 (st.take (st.length - 1)) b1 rfl (by rw [hlen2];exact c2) (by omega)
   have hsay:D4 st l[i]=some (st.take (st.length - 1)++[⟨X,strength l[i].op⟩]):=by unfold D4;rw [if_neg ha0,if_pos ha,dif_pos hl1,hX]
   refine .inl ⟨_,v',b',σ,hsay,?_,a2,by rw [List.length_append,hlen2];simp;try omega⟩
   unfold t101_2 at hw
   simp (disch:=first | exact dD _ | assumption) only [↓reduceIte,↓rK,rP,Nat.reduceAdd,Av Cv,Av GK,h1,h2,↓BB,BB,hln,ha,hS2,gT,gS,Eg,↓Eg,hlt,hix,hsd2,e1,hld,hwi,hX,c1,a1] at hw
   rw [←hw];rfl
  ·have hlt:(st.length:Int)<1:=by omega
   have hsay:D4 st l[i]=none:=by unfold D4;rw [if_neg ha0,if_pos ha,dif_neg hl1]
   simp (disch:=first | exact dD _ | assumption) only [↓reduceIte,↓rK,rP,Nat.reduceAdd,Av Cv,Av GK,h1,h2,↓BB,BB,hln,ha,hS2,gT,gS,Eg,↓Eg,hlt] at hw
   exact .inr ⟨_,hsay,hw.symm⟩
 ·
  have ha0:¬arity l[i].op=0:=by omega
  have ha1:¬arity l[i].op=1:=by omega
  have hsg:=QH l[i].op
  obtain ⟨sn,hix,hsd⟩:=Vk (t:=l[i]) ⟨by omega,by omega⟩
  have hsd2: ∀ K:V→Option (AEx×List V×St),ldG (S2.get 0) 0 (sn+0) K=K (.str (FQ l[i].op)):=fun K=>(LK 0 0 sn 0 K).symm.trans (hsd S2 K g0)
  by_cases hl1:2≤st.length
  ·have hlt:¬((st.length:Int)<2):=by omega
   have e1:(st.length:Int) - 1=((st.length - 1:Nat):Int):=by omega
   have e2:(st.length:Int) - 2=((st.length - 2:Nat):Int):=by omega
   have htc:=V9 st hl1
   have hwl:=J3 st[st.length - 1].s st[st.length - 1].lv (strength l[i].op+1)
   have hwl2:=J3 st[st.length - 2].s st[st.length - 2].lv (Gb l[i].op)
   have hld:=fun (K:V→Option (AEx×List V×St))=>hL2.ldT (t:=FY) (fun _=>rfl) (n:=st.length - 1) (by omega) rfl K
   have hld2:=fun (K:V→Option (AEx×List V×St))=>hL2.ldT (t:=FY) (fun _=>rfl) (n:=st.length - 2) (by omega) rfl K
   rw [Spk.zAC] at hld hld2
   have hwi:=h4 st[st.length - 1].s st[st.length - 1].lv (strength l[i].op+1) S2 (by omega)
   have hwi2:=h4 st[st.length - 2].s st[st.length - 2].lv (Gb l[i].op) S2 (by omega)
   generalize hX:FC st[st.length - 2].s st[st.length - 2].lv (Gb l[i].op)++FQ l[i].op++FC st[st.length - 1].s st[st.length - 1].lv (strength l[i].op+1)=X
   obtain ⟨v2,c1,c2⟩:=US (E:=env) (t:=178) (m:=st.length - 2) (hL3 X) WJ GK (by decide) (by omega) (by omega)
   rw [VU (fun _=>rfl) st _ (by omega)] at c2
   have hlen2:(st.take (st.length - 2)).length=st.length - 2:=by rw [List.length_take];omega
   obtain ⟨v',b',σ,a1,a2⟩:=add X v2 (st.take (st.length - 2)) b1 rfl (by rw [hlen2];exact c2) (by omega)
   have hsay:D4 st l[i]=some (st.take (st.length - 2)++[⟨X,strength l[i].op⟩]):=by unfold D4;rw [if_neg ha0,if_neg ha1,dif_pos hl1,hX]
   refine .inl ⟨_,v',b',σ,hsay,?_,a2,by rw [List.length_append,hlen2];simp;try omega⟩
   have hstr: -100≤strength l[i].op∧strength l[i].op≤100:=by unfold strength;grind
   unfold t101_2 t101_1 at hw
   by_cases h3':strength l[i].op=3
   ·have hlf:Gb l[i].op=4:=by unfold Gb;rw [if_pos h3']
    rw [hlf] at hwi2 hX hwl2
    have h3t:=eq_true h3'
    simp (disch:=first | exact dD _ | assumption) only [↓reduceIte,↓rK,rP,Nat.reduceAdd,Av Cv,Av GK,h1,h2,↓BB,BB,hln,ha,hS2,gT,gS,Eg,↓Eg,↓NS,NS,hlt,hix,hsd2,e1,e2,hld,hld2,hwi,hwi2,hX,c1,a1,h3t] at hw
    rw [←hw];rfl
   ·have hlf:Gb l[i].op=strength l[i].op:=by unfold Gb;rw [if_neg h3']
    rw [hlf] at hwi2 hX hwl2
    have h3t:=eq_false h3'
    simp (disch:=first | exact dD _ | assumption) only [↓reduceIte,↓rK,rP,Nat.reduceAdd,Av Cv,Av GK,h1,h2,↓BB,BB,hln,ha,hS2,gT,gS,Eg,↓Eg,↓NS,NS,hlt,hix,hsd2,e1,e2,hld,hld2,hwi,hwi2,hX,c1,a1,h3t] at hw
    rw [←hw];rfl
  ·have hlt:(st.length:Int)<2:=by omega
   have hsay:D4 st l[i]=none:=by unfold D4;rw [if_neg ha0,if_neg ha1,dif_neg hl1]
   simp (disch:=first | exact dD _ | assumption) only [↓reduceIte,↓rK,rP,Av Cv,Av GK,h1,h2,↓BB,BB,hln,ha,hS2,gT,hlt] at hw
   exact .inr ⟨_,hsay,hw.symm⟩
 ·exact absurd ha (Ua hm)
theorem sG:CD env 76 [(0,(V.str [])),(1,(V.str [])),(2,(V.str [])),(3,(V.str [])),(4,(V.str [33])),(5,(V.str [45])),(6,(V.str [42])),(7,(V.str [43])),(8,(V.str [45])),(9,(V.str [60])),(10,(V.str [60,61])),(11,(V.str [62])),(12,(V.str [62,61])),(13,(V.str [61,61])),(14,(V.str [33,61])),(15,(V.str [38,38])),(16,(V.str [124,124]))]=some (.agg Gl):=by kernel_rfl
theorem uN:(env.P.info? 76).map (·.size)=some 17:=by kernel_rfl
theorem sH:storeAt env 76 (.ptr 0 0 0) (.agg Gl) (St.empty.new (.blk [.str [],.str [],.str [],.str [],.str [],.str [],.str [],.str [],.str [],.str [],.str [],.str [],.str [],.str [],.str [],.str [],.str []] 76 0 false))=some ((St.empty.new (.blk [.str [],.str [],.str [],.str [],.str [],.str [],.str [],.str [],.str [],.str [],.str [],.str [],.str [],.str [],.str [],.str [],.str []] 76 0 false)).put 0 (.blk Gl 76 0 false)):=Av uN rfl rfl rfl rfl
theorem p9 {call:SS.Call} (h:Q6 call) (h0: ∀ (l:List Al) τ,Cg l→call 77 [(AA Ae).enc l] τ=some (.bool (Ck l),τ)) {k:Nat} (l:List Al) (hs:Cg l) (hk:l.length<k) :
 ∃ σ,t101 call k [(AA Ae).enc l] .empty=some (.str (D3 l),σ):=by
 cases hr:Ck l with
 | false =>
  have hp:D3 l=[]:=by unfold D3;rw [hr];rfl
  have h0':=h0 l .empty hs
  rw [hr] at h0'
  refine ⟨.empty,?_⟩
  unfold t101
  simp (disch:=first | exact dD _ | assumption) only [↓reduceIte,↓rK,rP,AL,h0',hp]
 | true =>
  have h0':=h0 l .empty hs
  rw [hr] at h0'
  have hmay:=Uc hr
  have hl30:l.length≤30:=by
   unfold Ck at hr
   rw [Bool.and_eq_true] at hr
   simpa using hr.2
  obtain ⟨e,vs',σ,g1,g2,g3⟩:=Br (P:=t101_3 call k) (Inv:=fun r vs τ=>∃ (i:Nat) (v:V) (st:List Spk) (b:Nat),r+i=l.length∧vs=[(AA Ae).enc l,v,.ptr 0 0 0,.int .i64 (i:Int)]∧KH τ v st b∧st.length≤i∧tot st≤20*i∧GI st (l.drop i)=GI [] l)
   (Q:=fun y=>(y.1=.exit 0∧∃ v st b,y.2.1=[v]∧KH y.2.2 v st b∧st.length≤30∧GI [] l=some st)∨(y.1=.ret∧y.2.1=[.str []]∧GI [] l=none))
   (by
     rintro r vs τ ⟨i,v,st,b,hr',rfl,hI,hsl,hst,hsay⟩
     by_cases hi:i<l.length
     ·have hm:=hmay _ (List.getElem_mem hi)
      rw [List.drop_eq_getElem_cons hi] at hsay
      have hsay:(match D4 st l[i] with | some st'=>GI st' (l.drop (i+1)) | none=>none)=GI [] l:=hsay
      rcases p8 h l hs i hi hm v st b τ hI (by omega) (by omega) with ⟨st',v',b',σ,s1,s2,s3,s4⟩ | ⟨σ,s1,s2⟩
      ·rw [s1] at hsay
       have:=VZ s1 hm
       exact .inl ⟨r - 1,_,σ,by omega,s2,i+1,v',st',b',by omega,rfl,s3,by omega,by omega,hsay⟩
      ·rw [s1] at hsay
       exact .inr ⟨_,_,σ,s2,(by intro h;cases h),.inr ⟨rfl,rfl,hsay.symm⟩⟩
     ·have he:i=l.length:=by omega
      subst he
      rw [List.drop_length] at hsay
      refine .inr ⟨.exit 0,[v],τ,?_,(by intro h;cases h),.inl ⟨rfl,v,st,b,rfl,hI,by omega,hsay.symm⟩⟩
      unfold t101_3
      simp (disch:=first | exact dD _ | assumption) only [↓reduceIte,↓rK,rP])
   l.length k [(AA Ae).enc l,.nilS,.ptr 0 0 0,.int .i64 0] ((St.empty.new (.blk [.str [],.str [],.str [],.str [],.str [],.str [],.str [],.str [],.str [],.str [],.str [],.str [],.str [],.str [],.str [],.str [],.str []] 76 0 false)).put 0 (.blk Gl 76 0 false)) hk
   ⟨0,.nilS,[],1,by omega,rfl,⟨by rw [St.zAG,if_pos rfl],by decide,nA _ _ _ _,by decide⟩,by simp,by simp [tot],by simp⟩
  generalize hw:t101 call k [(AA Ae).enc l] .empty=w
  unfold t101 at hw
  simp (disch:=first | exact dD _ | assumption) only [↓reduceIte,↓rK,rP,h0',sG,sH,g1] at hw
  rcases g3 with ⟨q1,v,st,b,q2,q3,q4,q5⟩ | ⟨q1,q2,q3⟩
  ·simp only at q1 q2 q3
   subst q1 q2
   unfold t101_4 at hw
   obtain ⟨_,_,hL,_⟩:=q3
   have hln: ∀ K:Int→Option (AEx×List V×St),lnK v K=K (st.length:Int):=fun K=>hL.len K
   match st,q5,q4,hL,hln with
   | [],q5,_,hL,hln =>
    have hp:D3 l=[]:=by unfold D3;rw [hr,q5];rfl
    have hz:(([]:List Spk).length:Int)=0:=rfl
    simp (disch:=first | exact dD _ | assumption) only [↓reduceIte,↓rK,rP,AL,hln] at hw
    rw [hp];exact ⟨_,hw.symm⟩
   | a :: r,q5,q4,hL,hln =>
    have hp:D3 l=a.s:=by unfold D3;rw [hr,q5];rfl
    have hne:¬(((a :: r).length:Int)=0):=by rw [List.length_cons];omega
    have hld:=fun (K:V→Option (AEx×List V×St))=>hL.ldT1 (t:=FY) (fun _=>rfl) (n:=0) (off:=0) (x:=.str a.s) (by simp) (by decide) rfl rfl K
    rw [show ((0:Nat):Int)=0 from rfl] at hld
    generalize ((a :: r).length:Int)=N at *
    simp (disch:=first | exact dD _ | assumption) only [↓reduceIte,↓rK,rP,AL,hln,hne,hld] at hw
    rw [hp];exact ⟨_,hw.symm⟩
  ·simp only at q1 q2
   subst q1 q2
   have hp:D3 l=[]:=by unfold D3;rw [hr,q3];rfl
   simp (disch:=first | exact dD _ | assumption) only [↓rK,rP,AL] at hw
   rw [hp];exact ⟨_,hw.symm⟩
theorem JV {α:Type} {t:Ty α} {dp n:Nat} {ty:TypeId} {sz:Nat} {τ:St} {v:V} {xs:List α} {b:Nat} {d:TypeDesc} (hi:(env.P.info? ty).map (·.size)=some sz) (hd:env.P.underlying ty=some d) (h0:0<sz)
 (hs: ∀ x,(t.enc x).cells.length=sz) (hp: ∀ x,Dh d sz 1 (t.enc x).cells=some [t.enc x]) (hsh:D9 t dp) (hn:dp≤n) (h:Lst τ ty sz v xs.length (rows t xs) b):frz env τ (n+1) v=some ((AA t).enc xs):=by
 obtain ⟨i,h1,h2⟩:=Option.map_eq_some_iff.1 hi
 exact UU h h1 hd h2 h0 hs hp hsh hn
theorem Zr: ∃ fs,env.P.underlying 62=some (.struct fs):=by
 have:(match env.P.underlying 62 with | some (.struct _)=>true | _=>false)=true:=by kernel_rfl
 split at this
 ·rename_i fs e;exact ⟨fs,e⟩
 ·cases this
theorem Zo: ∃ fs,env.P.underlying 122=some (.struct fs):=by
 have:(match env.P.underlying 122 with | some (.struct _)=>true | _=>false)=true:=by kernel_rfl
 split at this
 ·rename_i fs e;exact ⟨fs,e⟩
 ·cases this
theorem Zp: ∃ fs,env.P.underlying 146=some (.struct fs):=by
 have:(match env.P.underlying 146 with | some (.struct _)=>true | _=>false)=true:=by kernel_rfl
 split at this
 ·rename_i fs e;exact ⟨fs,e⟩
 ·cases this
theorem Zm: ∃ fs,env.P.underlying 100=some (.struct fs):=by
 have:(match env.P.underlying 100 with | some (.struct _)=>true | _=>false)=true:=by kernel_rfl
 split at this
 ·rename_i fs e;exact ⟨fs,e⟩
 ·cases this
theorem Zq: ∃ fs,env.P.underlying 70=some (.struct fs):=by
 have:(match env.P.underlying 70 with | some (.struct _)=>true | _=>false)=true:=by kernel_rfl
 split at this
 ·rename_i fs e;exact ⟨fs,e⟩
 ·cases this
theorem Zn: ∃ fs,env.P.underlying 43=some (.struct fs):=by
 have:(match env.P.underlying 43 with | some (.struct _)=>true | _=>false)=true:=by kernel_rfl
 split at this
 ·rename_i fs e;exact ⟨fs,e⟩
 ·cases this
theorem Mw:(env.P.info? 100).map (·.size)=some 2:=by kernel_rfl
theorem uM:(env.P.info? 3).map (·.size)=some 1:=by kernel_rfl
theorem Sd:env.P.underlying 3=some (.int .i64):=by kernel_rfl
theorem cZ {τ:St} {v:V} {xs:List Var} {b n:Nat} (hn:2≤n) (h:Lst τ 62 4 v xs.length (rows BF xs) b):frz env τ (n+1) v=some ((AA BF).enc xs):=by
 obtain ⟨fs,hd⟩:=Zr
 exact JV FW hd (by decide) (fun _=>rfl) (fun _=>rfl) sB hn h
theorem cK {τ:St} {v:V} {xs:List Al} {b n:Nat} (hn:2≤n) (h:Lst τ 122 4 v xs.length (rows Ae xs) b):frz env τ (n+1) v=some ((AA Ae).enc xs):=by
 obtain ⟨fs,hd⟩:=Zo
 exact JV Cv hd (by decide) (fun _=>rfl) (fun _=>rfl) QG hn h
theorem cO {τ:St} {v:V} {xs:List BU} {b n:Nat} (hn:2≤n) (h:Lst τ 146 4 v xs.length (rows BD xs) b):frz env τ (n+1) v=some ((AA BD).enc xs):=by
 obtain ⟨fs,hd⟩:=Zp
 exact JV FU hd (by decide) (fun _=>rfl) (fun _=>rfl) r9 hn h
theorem bW {τ:St} {v:V} {xs:List Eff} {b n:Nat} (hn:4≤n) (h:Lst τ 100 2 v xs.length (rows Be xs) b):frz env τ (n+1) v=some ((AA Be).enc xs):=by
 obtain ⟨fs,hd⟩:=Zm
 exact JV Mw hd (by decide) (fun _=>rfl) (fun _=>rfl) Vg hn h
theorem cU {τ:St} {v:V} {xs:List Bi} {b n:Nat} (hn:6≤n) (h:Lst τ 70 7 v xs.length (rows BJ xs) b):frz env τ (n+1) v=some ((AA BJ).enc xs):=by
 obtain ⟨fs,hd⟩:=Zq
 exact JV FV hd (by decide) (fun _=>rfl) (fun _=>rfl) sA hn h
theorem FM {τ:St} {v:V} {xs:List Int} {b n:Nat} (hn:1≤n) (h:Lst τ 3 1 v xs.length (rows AJ xs) b):frz env τ (n+1) v=some ((AA AJ).enc xs) :=
 JV uM Sd (by decide) (fun _=>rfl) (fun _=>rfl) Vh hn h
def Hr (p:Bl):List V:=[.str p.name,.lst (p.locs.map V.str) false]
theorem bX {τ:St} {n:Nat} (l:List B):frz env τ (n+2) (.lst (l.map V.str) false)=some ((AA AC).enc l):=by
 match l with
 | []=>rfl
 | a :: r=>exact O5 (t:=AA AC) (d:=2) Vi.list (by omega) (a :: r)
theorem bZ {τ:St} {v:V} {xs:List Bl} {b n:Nat} (hn:3≤n) (h:Lst τ 43 2 v xs.length (xs.flatMap Hr) b):frz env τ (n+1) v=some ((AA BP).enc xs):=by
 obtain ⟨fs,hd⟩:=Zn
 obtain ⟨i,h1,h2⟩:=Option.map_eq_some_iff.1 ER
 obtain ⟨n,rfl⟩: ∃ m,n=m+3:=⟨n - 3,by omega⟩
 refine nC h h1 hd h2 (by decide) (fun _=>rfl) fun p=>⟨.agg (Hr p),rfl,?_⟩
 show (match [V.str p.name,.lst (p.locs.map V.str) false].mapM (frz env τ (n+2)) with | some ys=>some (V.agg ys) | none=>none)=_
 rw [List.mapM_cons,List.mapM_cons,List.mapM_nil,bX]
 rfl
theorem Ik {σ:St} {ty:TypeId} {sz:Nat} {v:V} {l:Nat} {cs:List V} {b:Nat} (h:Lst σ ty sz v l cs b):v.kind=1∨v.kind=2:=by
 rcases h with ⟨rfl,_⟩ | ⟨_,rfl,_⟩
 ·exact .inl rfl
 ·exact .inr rfl
theorem Tf {τ:St} {a b c:V} {vs:List Var} {ps:List Bl} {ts:List Bi} {i j l n:Nat} (hn:8≤n) (h1:Lst τ 62 4 a vs.length (rows BF vs) i) (h2:Lst τ 43 2 b ps.length (ps.flatMap Hr) j) (h3:Lst τ 70 7 c ts.length (rows BJ ts) l) :
 frz env τ (n+1) (.agg [a,b,c])=some (AU.enc ⟨vs,ps,ts⟩):=by
 obtain ⟨n,rfl⟩: ∃ m,n=m+8:=⟨n - 8,by omega⟩
 show (match [a,b,c].mapM (frz env τ (n+7+1)) with | some ys=>some (V.agg ys) | none=>none)=_
 rw [List.mapM_cons,List.mapM_cons,List.mapM_cons,List.mapM_nil,cZ (by omega) h1,bZ (by omega) h2,cU (by omega) h3]
 rfl
theorem bS {τ:St} {v u:V} (hk:v.kind≠0) (h:frz env τ 64 v=some u):Bb env τ [v]=some [u]:=by
 show (match (bif Nat.beq v.kind 0 then some v else frz env τ DP v),Bb env τ [] with | some x,some xs=>some (x :: xs) | _,_=>none)=_
 have:Nat.beq v.kind 0=false:=by rw [Fw];exact decide_eq_false hk
 rw [this]
 show (match frz env τ 64 v,_ with | some x,some xs=>some (x :: xs) | _,_=>none)=_
 rw [h];rfl
theorem Jw:(env.P.info? 30).map (·.size)=some 3:=by kernel_rfl
structure PM (τ:St) (xv xp xt:V) (vs:List Var) (ps:List Bl) (ts:List Bi):Prop where
 z:τ.get 0=some (.blk [.nilS,.nilS,.nilS] 30 0 false)
 m:τ.get 1=some (.blk [xv,xp,xt] 30 0 false)
 n:2≤τ.n
 ls: ∃ bv bp bt,Lst τ 62 4 xv vs.length (rows BF vs) bv∧Lst τ 43 2 xp ps.length (ps.flatMap Hr) bp∧Lst τ 70 7 xt ts.length (rows BJ ts) bt∧2≤bv∧2≤bp∧2≤bt∧bv≠bp∧bv≠bt∧bp≠bt
theorem PM.far {τ:St} {xv xp xt:V} {vs:List Var} {ps:List Bl} {ts:List Bi} (h:PM τ xv xp xt vs ps ts): ∃ bv bp bt,Lst τ 62 4 xv vs.length (rows BF vs) bv∧Lst τ 43 2 xp ps.length (ps.flatMap Hr) bp∧Lst τ 70 7 xt ts.length (rows BJ ts) bt∧2≤bv∧2≤bp∧2≤bt∧bv≠bp∧bv≠bt∧bp≠bt∧(bv<τ.n∨bv=τ.n+5)∧(bp<τ.n∨bp=τ.n+6)∧(bt<τ.n∨bt=τ.n+7):=by
 obtain ⟨bv,bp,bt,h1,h2,h3,d1,d2,d3,d4,d5,d6⟩:=h.ls
 obtain ⟨cv,e1,f1⟩:=EI 5 h1
 obtain ⟨cp,e2,f2⟩:=EI 6 h2
 obtain ⟨ct,e3,f3⟩:=EI 7 h3
 have hn:=h.n
 exact ⟨cv,cp,ct,e1,e2,e3,by omega,by omega,by omega,by omega,by omega,by omega,by omega,by omega,by omega⟩
theorem PM.of {τ τ':St} {xv xp xt:V} {vs:List Var} {ps:List Bl} {ts:List Bi} (h:PM τ xv xp xt vs ps ts) (hg: ∀ c,c<τ.n→τ'.get c=τ.get c) (hn:τ.n≤τ'.n):PM τ' xv xp xt vs ps ts:=by
 obtain ⟨bv,bp,bt,h1,h2,h3,d⟩:=h.ls
 have hn2:=h.n
 exact ⟨by rw [hg 0 (by omega)];exact h.z,by rw [hg 1 (by omega)];exact h.m,by omega,bv,bp,bt,h1.of (fun hc=>hg _ hc) hn,h2.of (fun hc=>hg _ hc) hn,h3.of (fun hc=>hg _ hc) hn,d⟩
theorem PM.var {τ:St} {xv xp xt:V} {vs:List Var} {ps:List Bl} {ts:List Bi} (h:PM τ xv xp xt vs ps ts) (hl:vs.length<1000000) (v:Var) :
 ∃ x' σ',(∀ K:V→St→Option (AEx×List V×St),BQ 62 4 1 [.str v.name,.int .i64 v.low,.int .i64 v.high,.int .i64 v.init] xv τ K=K x' σ')∧σ'.get 1=some (.blk [xv,xp,xt] 30 0 false)∧x'.one=true∧PM (σ'.put 1 (.blk [x',xp,xt] 30 0 false)) x' xp xt (vs++[v]) ps ts:=by
 obtain ⟨bv,bp,bt,h1,h2,h3,d1,d2,d3,d4,d5,d6,f1,f2,f3⟩:=h.far
 have hn:=h.n
 obtain ⟨x',b',σ',a1,a2,a3,a4,a5,a6⟩:=DV (new:=(BF.enc v).cells) h1 (by omega) rfl (by decide)
 refine ⟨x',σ',fun K=>a1 K,by rw [a4 1 (by omega) (by omega)];exact h.m,a2.one,⟨?_,by rw [St.zAG,if_pos rfl],by rw [Au];omega,b',bp,bt,?_,?_,?_,by omega,by omega,by omega,by omega,by omega,by omega⟩⟩
 ·rw [St.zAG,if_neg (by omega),a4 0 (by omega) (by omega)];exact h.z
 ·rw [DL,List.length_append];exact a2.of (fun _=>by rw [St.zAG,if_neg (by omega)]) (Nat.le_refl _)
 ·exact (h2.of (σ':=σ') (fun hc=>a4 _ hc (by omega)) (by omega)).of (fun _=>by rw [St.zAG,if_neg (by omega)]) (Nat.le_refl _)
 ·exact (h3.of (σ':=σ') (fun hc=>a4 _ hc (by omega)) (by omega)).of (fun _=>by rw [St.zAG,if_neg (by omega)]) (Nat.le_refl _)
theorem PM.proc {τ:St} {xv xp xt:V} {vs:List Var} {ps:List Bl} {ts:List Bi} (h:PM τ xv xp xt vs ps ts) (hl:ps.length<1000000) (p:Bl) :
 ∃ x' σ',(∀ K:V→St→Option (AEx×List V×St),BQ 43 2 1 [.str p.name,.lst (p.locs.map V.str) false] xp τ K=K x' σ')∧σ'.get 1=some (.blk [xv,xp,xt] 30 0 false)∧x'.one=true∧PM (σ'.put 1 (.blk [xv,x',xt] 30 0 false)) xv x' xt vs (ps++[p]) ts:=by
 obtain ⟨bv,bp,bt,h1,h2,h3,d1,d2,d3,d4,d5,d6,f1,f2,f3⟩:=h.far
 have hn:=h.n
 obtain ⟨x',b',σ',a1,a2,a3,a4,a5,a6⟩:=DV (new:=Hr p) h2 (by omega) rfl (by decide)
 refine ⟨x',σ',fun K=>a1 K,by rw [a4 1 (by omega) (by omega)];exact h.m,a2.one,⟨?_,by rw [St.zAG,if_pos rfl],by rw [Au];omega,bv,b',bt,?_,?_,?_,by omega,by omega,by omega,by omega,by omega,by omega⟩⟩
 ·rw [St.zAG,if_neg (by omega),a4 0 (by omega) (by omega)];exact h.z
 ·exact (h1.of (σ':=σ') (fun hc=>a4 _ hc (by omega)) (by omega)).of (fun _=>by rw [St.zAG,if_neg (by omega)]) (Nat.le_refl _)
 ·rw [List.flatMap_append,List.length_append]
  have e:[p].flatMap Hr=Hr p:=by simp
  rw [e]
  exact a2.of (fun _=>by rw [St.zAG,if_neg (by omega)]) (Nat.le_refl _)
 ·exact (h3.of (σ':=σ') (fun hc=>a4 _ hc (by omega)) (by omega)).of (fun _=>by rw [St.zAG,if_neg (by omega)]) (Nat.le_refl _)
theorem PM.tran {τ:St} {xv xp xt:V} {vs:List Var} {ps:List Bl} {ts:List Bi} (h:PM τ xv xp xt vs ps ts) (hl:ts.length<1000000) (t:Bi) :
 ∃ x' σ',(∀ K:V→St→Option (AEx×List V×St),BQ 70 7 1 [.int .i64 t.id,.str t.proc,.str t.from_,.str t.to,.str t.sync,(AA Ae).enc t.guard,(AA Be).enc t.effs] xt τ K=K x' σ')∧σ'.get 1=some (.blk [xv,xp,xt] 30 0 false)∧x'.one=true∧PM (σ'.put 1 (.blk [xv,xp,x'] 30 0 false)) xv xp x' vs ps (ts++[t]):=by
 obtain ⟨bv,bp,bt,h1,h2,h3,d1,d2,d3,d4,d5,d6,f1,f2,f3⟩:=h.far
 have hn:=h.n
 obtain ⟨x',b',σ',a1,a2,a3,a4,a5,a6⟩:=DV (new:=(BJ.enc t).cells) h3 (by omega) rfl (by decide)
 refine ⟨x',σ',fun K=>a1 K,by rw [a4 1 (by omega) (by omega)];exact h.m,a2.one,⟨?_,by rw [St.zAG,if_pos rfl],by rw [Au];omega,bv,bp,b',?_,?_,?_,by omega,by omega,by omega,by omega,by omega,by omega⟩⟩
 ·rw [St.zAG,if_neg (by omega),a4 0 (by omega) (by omega)];exact h.z
 ·exact (h1.of (σ':=σ') (fun hc=>a4 _ hc (by omega)) (by omega)).of (fun _=>by rw [St.zAG,if_neg (by omega)]) (Nat.le_refl _)
 ·exact (h2.of (σ':=σ') (fun hc=>a4 _ hc (by omega)) (by omega)).of (fun _=>by rw [St.zAG,if_neg (by omega)]) (Nat.le_refl _)
 ·rw [DL,List.length_append];exact a2.of (fun _=>by rw [St.zAG,if_neg (by omega)]) (Nat.le_refl _)
structure PMs (l:List B) (vs:List Var) (ps:List Bl) (ts:List Bi):Prop where
 var: ∀ v∈vs,v.name.length<1000000
 proc: ∀ p∈ps,p.name.length<1000000∧p.locs.length<1000000∧∀ s∈p.locs,s.length<1000000
 tran: ∀ t∈ts,Dg t
 names: ∀ p∈ps,∃ L∈l,BC L=[112,114,111,99] :: p.name :: p.locs
theorem Wf {R:Type} {a b c d x y z:V} (ha:a.one=true) (hb:b.one=true) (hc:c.one=true) (hd:d.one=true) (hx:x.one=true) (hy:y.one=true) (hz:z.one=true) (K:List V→Option R):agN 7 (.agg [a,b,c,d,x,y,z]) K=K [a,b,c,d,x,y,z]:=by
 have e: ∀ v:V,v.one=true→V.isOne v=true:=fun v h=>by rw [V.zAH];exact h
 unfold agN
 show gd (Nat.beq (BN [a,b,c,d,x,y,z]) 7) (gd (Ew V.isOne [a,b,c,d,x,y,z]) (K [a,b,c,d,x,y,z]))=_
 have h1:BN [a,b,c,d,x,y,z]=7:=by rw [Bv];rfl
 rw [h1]
 have h2:Ew V.isOne [a,b,c,d,x,y,z]=true:=by
  unfold Ew
  simp only [e a ha,e b hb,e c hc,e d hd,e x hx,e y hy,e z hz]
 rw [h2];rfl
structure Q5 (call:SS.Call) (pt:B→Bi×Bool):Prop where
 words: ∀ (s:B) τ,s.length<999999→call 47 [.str s] τ=some ((AA AC).enc (BC s),τ)
 parseVar: ∀ (l:List B) τ,l.length<1000000→(∀ s∈l,s.length<1000000)→call 48 [.lst (l.map V.str) false] τ=some (.tup [BF.enc (parseVar l).1,.bool (parseVar l).2],τ)
 skip: ∀ (s:B) (n:Nat) τ,s.length<1000000→n<10→call 50 [.str s,.int .i64 (n:Int)] τ=some (.str (CY s n),τ)
 parseTrans: ∀ (s:B) τ,s.length<900000→call 49 [.str s] τ=some (.tup [BJ.enc (pt s).1,.bool (pt s).2],τ)
 small: ∀ s,s.length<900000→Dg (pt s).1
theorem o9 (l:List B) (hs: ∀ s∈l,s.length<1000000):(parseVar l).1.name.length<1000000:=by
 unfold parseVar
 split
 ·exact hs _ (by simp)
 ·show 0<1000000;omega
theorem wG (s:B):(BC s).length≤s.length+1:=Nat.le_trans (List.length_filter_le _ _) (Gz 32 s)
set_option maxHeartbeats 32000000 in
theorem pU {call:SS.Call} {pt:B→Bi×Bool} (h:Q5 call pt) {k:Nat} (l:List B) (hl:l.length<900000) (hs: ∀ s∈l,s.length<90000) (i:Nat) (hi:i<l.length) (st:Int) (τ:St) {xv xp xt:V} {vs:List Var} {ps:List Bl} {ts:List Bi} (hI:PM τ xv xp xt vs ps ts) (hP:PMs l vs ps ts) (h1:vs.length≤i) (h2:ps.length≤i) (h3:ts.length≤i) :
 ∃ σ,(∃ st' xv' xp' xt' vs' ps' ts',t27_2 call k [.ptr 0 0 0,.ptr 1 0 0,.int .i64 st,(AA AC).enc l,.int .i64 (i:Int)] τ=some (.norm,[.ptr 0 0 0,.ptr 1 0 0,.int .i64 st',(AA AC).enc l,.int .i64 ((i+1:Nat):Int)],σ)∧PM σ xv' xp' xt' vs' ps' ts'∧PMs l vs' ps' ts'∧vs'.length≤i+1∧ps'.length≤i+1∧ts'.length≤i+1) ∨
  t27_2 call k [.ptr 0 0 0,.ptr 1 0 0,.int .i64 st,(AA AC).enc l,.int .i64 (i:Int)] τ=some (.ret,[.agg [.nilS,.nilS,.nilS],.int .i64 2,.int .i64 ((i+1:Nat):Int)],σ):=by
 have hz:=hI.z;have hm:=hI.m;have hn:=hI.n
 have hlen:=hs _ (List.getElem_mem hi)
 have hW:=h.words l[i] τ (by omega)
 have hWl:=wG l[i]
 have hWs: ∀ s∈BC l[i],s.length<1000000:=fun s hs=>by have:=WY l[i] s hs;omega
 have hst: ∀ (σ:St),σ.get 0=some (.blk [.nilS,.nilS,.nilS] 30 0 false)→storeAt env 30 (.ptr 0 0 0) (.agg [.nilS,.nilS,.nilS]) σ=some (σ.put 0 (.blk [.nilS,.nilS,.nilS] 30 0 false)):=fun σ hg=>Et Jw hg rfl rfl rfl
 have e1:((i:Int)+1)=((i+1:Nat):Int):=by omega
 have fin: ∀ (σ:St) (kd:Int) (ok:Bool) (xv' xp' xt':V) (vs':List Var) (ps':List Bl) (ts':List Bi),PM σ xv' xp' xt' vs' ps' ts' →
  A7 1 (t27_0 call k [.ptr 0 0 0,.ptr 1 0 0,.int .i64 st,(AA AC).enc l,.int .i64 (i:Int),.int .i64 kd,.bool ok] σ) (t27_1 call k)=some (.norm,[.ptr 0 0 0,.ptr 1 0 0,.int .i64 kd,(AA AC).enc l,.int .i64 ((i+1:Nat):Int)],σ) ∨
  ∃ σ',A7 1 (t27_0 call k [.ptr 0 0 0,.ptr 1 0 0,.int .i64 st,(AA AC).enc l,.int .i64 (i:Int),.int .i64 kd,.bool ok] σ) (t27_1 call k)=some (.ret,[.agg [.nilS,.nilS,.nilS],.int .i64 2,.int .i64 ((i+1:Nat):Int)],σ'):=by
  intro σ kd ok xv' xp' xt' vs' ps' ts' hpm
  have hz':=hpm.z
  have hst':=hst σ hz'
  unfold t27_0 t27_1
  cases ok with
  | false =>
   right
   simp (disch:=first | exact dD _ | assumption) only [↓reduceIte,↓rK,rP,Nat.reduceAdd,hst',e1]
   exact ⟨_,rfl⟩
  | true =>
   by_cases hk:kd<st
   ·right
    have hk':=eq_true hk
    simp (disch:=first | exact dD _ | assumption) only [↓reduceIte,↓rK,rP,Nat.reduceAdd,hst',e1,hk']
    exact ⟨_,rfl⟩
   ·left
    have hk':=eq_false hk
    simp (disch:=first | exact dD _ | assumption) only [↓reduceIte,↓rK,rP,e1,hk']
 have keep: ∀ (xv' xp' xt':V) (vs':List Var) (ps':List Bl) (ts':List Bi) (σ:St) (kd:Int) (ok:Bool) (w:Res),PM σ xv' xp' xt' vs' ps' ts'→PMs l vs' ps' ts'→vs'.length≤i+1→ps'.length≤i+1→ts'.length≤i+1 →
  A7 1 (t27_0 call k [.ptr 0 0 0,.ptr 1 0 0,.int .i64 st,(AA AC).enc l,.int .i64 (i:Int),.int .i64 kd,.bool ok] σ) (t27_1 call k)=w →
  ∃ σ,(∃ st' xv' xp' xt' vs' ps' ts',w=some (.norm,[.ptr 0 0 0,.ptr 1 0 0,.int .i64 st',(AA AC).enc l,.int .i64 ((i+1:Nat):Int)],σ)∧PM σ xv' xp' xt' vs' ps' ts'∧PMs l vs' ps' ts'∧vs'.length≤i+1∧ps'.length≤i+1∧ts'.length≤i+1) ∨
   w=some (.ret,[.agg [.nilS,.nilS,.nilS],.int .i64 2,.int .i64 ((i+1:Nat):Int)],σ):=by
  intro xv' xp' xt' vs' ps' ts' σ kd ok w hpm hps l1 l2 l3 hw
  rcases fin σ kd ok xv' xp' xt' vs' ps' ts' hpm with f | ⟨σ',f⟩
  ·exact ⟨σ,.inl ⟨kd,xv',xp',xt',vs',ps',ts',hw.symm.trans f,hpm,hps,l1,l2,l3⟩⟩
  ·exact ⟨σ',.inr (hw.symm.trans f)⟩
 generalize hw:t27_2 call k [.ptr 0 0 0,.ptr 1 0 0,.int .i64 st,(AA AC).enc l,.int .i64 (i:Int)] τ=w
 unfold t27_2 at hw
 by_cases h0:l[i]=[]
 ·have h0':=eq_true h0
  unfold t27_1 at hw
  simp (disch:=first | exact dD _ | assumption) only [↓reduceIte,↓rK,rP,h0',e1] at hw
  exact ⟨τ,.inl ⟨st,xv,xp,xt,vs,ps,ts,hw.symm,hI,hP,by omega,by omega,by omega⟩⟩
 ·have h0':=eq_false h0
  have nil:=fun (kd:Int) (ok:Bool)=>keep xv xp xt vs ps ts τ kd ok w hI hP (by omega) (by omega) (by omega)
  cases hWe:BC l[i] with
  | nil =>
   rw [hWe] at hW
   simp (disch:=first | exact dD _ | assumption) only [↓reduceIte,↓rK,rP,h0',hW] at hw
   exact nil _ _ hw
  | cons a r =>
   rw [hWe] at hW hWl hWs
   have hr1:(a :: r).length<1000000:=by omega
   have i0: ∀ (K:V→Option (AEx×List V×St)),Ab 1 ((AA AC).enc (a :: r)) 0 0 τ K=K (.str a):=fun K=>Ei (n:=0) (l:=a :: r) (by simp) K
   have hpos:(0:Int)<((a :: r).length:Int):=by simp only [List.length_cons];omega
   have hsl:=fun n hn=>QL (a :: r) (by simp) n hn τ
   by_cases hv:a=[118,97,114]
   ·have hv':=eq_true hv
    have hsl1:sliceAt env 37 ((AA AC).enc (a :: r)) (some (.int .i64 1)) none none τ=some (.lst (r.map V.str) false):=hsl 1 (by simp)
    have hpv:=h.parseVar r τ (by simp at hr1;omega) (fun s hs=>hWs s (by simp [hs]))
    have hsmall:=o9 r (fun s hs=>hWs s (by simp [hs]))
    generalize hPV:(parseVar r).1=pv at *
    generalize hPB:(parseVar r).2=pb at *
    have hI2:PM ((τ.new (.blk [.str [],.int .i64 0,.int .i64 0,.int .i64 0] 62 0 false)).put τ.n (.blk [.str pv.name,.int .i64 pv.low,.int .i64 pv.high,.int .i64 pv.init] 62 0 false)) xv xp xt vs ps ts :=
     hI.of (fun c hc=>by rw [St.zAG,if_neg (by omega),St.zAE,if_neg (by omega)]) (by rw [Au,AZ];omega)
    obtain ⟨x',σ',a1,a2,a3,a4⟩:=hI2.var (by omega) pv
    have hx:xv.one=true:=by obtain ⟨_,_,_,q1,_⟩:=hI.ls;exact q1.one
    generalize (a :: r).length=N at *
    simp (disch:=first | exact dD _ | assumption) only [↓reduceIte,↓rK,rP,Nat.reduceAdd,h0',hW,i0,hv',hsl1,hpv,Av FW,hm,hx,LH,↓LH,a1,a2] at hw
    exact keep x' xp xt (vs++[pv]) ps ts _ 1 pb w a4 ⟨fun v hv=>by rcases List.mem_append.1 hv with h | h;exact hP.var v h;rw [List.mem_singleton.1 h];exact hsmall,hP.proc,hP.tran,hP.names⟩ (by simp;omega) (by omega) (by omega) hw
   ·have hv':=eq_false hv
    by_cases hp:a=[112,114,111,99]
    ·have hp':=eq_true hp
     cases r with
     | nil =>
      have h11:¬(1<(([a]:List B).length:Int)):=by simp
      generalize ([a]:List B).length=N at *
      simp (disch:=first | exact dD _ | assumption) only [↓reduceIte,↓rK,rP,h0',hW,i0,hv',hp'] at hw
      exact nil _ _ hw
     | cons b q =>
      have h11:1<((a :: b :: q).length:Int):=by simp only [List.length_cons];omega
      have i1: ∀ (K:V→Option (AEx×List V×St)),Ab 1 ((AA AC).enc (a :: b :: q)) 1 0 τ K=K (.str b):=fun K=>Ei (n:=1) (l:=a :: b :: q) (by simp) K
      have hsl2:sliceAt env 37 ((AA AC).enc (a :: b :: q)) (some (.int .i64 2)) none none τ=some (.lst (q.map V.str) false):=hsl 2 (by simp)
      obtain ⟨x',σ',a1,a2,a3,a4⟩:=hI.proc (by omega) ⟨b,q⟩
      have hx:xp.one=true:=by obtain ⟨_,_,_,_,q1,_⟩:=hI.ls;exact q1.one
      have hb:=hWs b (by simp)
      have hq:q.length<1000000:=by simp at hr1;omega
      have hqs: ∀ s∈q,s.length<1000000:=fun s hs=>hWs s (by simp [hs])
      generalize (a :: b :: q).length=N at *
      simp (disch:=first | exact dD _ | assumption) only [↓reduceIte,↓rK,rP,Nat.reduceAdd,h0',hW,i0,i1,hv',hp',hsl2,hm,hx,a1,a2] at hw
      refine keep xv x' xt vs (ps++[⟨b,q⟩]) ts _ 2 true w a4 ⟨hP.var,fun p hpm=>?_,hP.tran,fun p hpm=>?_⟩ (by omega) (by simp;omega) (by omega) hw
      ·rcases List.mem_append.1 hpm with h | h
       ·exact hP.proc p h
       ·rw [List.mem_singleton.1 h];exact ⟨hb,hq,hqs⟩
      ·rcases List.mem_append.1 hpm with h | h
       ·exact hP.names p h
       ·rw [List.mem_singleton.1 h];exact ⟨_,List.getElem_mem hi,by rw [hWe,hp]⟩
    ·have hp':=eq_false hp
     by_cases ht:a=[116,114,97,110,115]
     ·have ht':=eq_true ht
      have hsk:=h.skip l[i] 1 τ (by omega) (by omega)
      rw [show ((1:Nat):Int)=1 from rfl] at hsk
      have hsl:=Vo l[i] 1
      have hpt:=h.parseTrans (CY l[i] 1) τ (by omega)
      have hsm:=h.small (CY l[i] 1) (by omega)
      generalize (pt (CY l[i] 1)).1=t at *
      generalize (pt (CY l[i] 1)).2=tb at *
      have hI2:PM ((τ.new (.blk [.int .i64 0,.str [],.str [],.str [],.str [],.nilS,.nilS] 70 0 false)).put τ.n (.blk [.int .i64 t.id,.str t.proc,.str t.from_,.str t.to,.str t.sync,(AA Ae).enc t.guard,(AA Be).enc t.effs] 70 0 false)) xv xp xt vs ps ts :=
       hI.of (fun c hc=>by rw [St.zAG,if_neg (by omega),St.zAE,if_neg (by omega)]) (by rw [Au,AZ];omega)
      obtain ⟨x',σ',a1,a2,a3,a4⟩:=hI2.tran (by omega) t
      have hx:xt.one=true:=by obtain ⟨_,_,_,_,_,q1,_⟩:=hI.ls;exact q1.one
      generalize (a :: r).length=N at *
      simp (disch:=first | exact dD _ | assumption) only [↓reduceIte,↓rK,rP,Nat.reduceAdd,h0',hW,i0,hv',hp',ht',hsk,hpt,Av FV,hm,hx,Wf,↓Wf,a1,a2] at hw
      exact keep xv xp x' vs ps (ts++[t]) _ 3 tb w a4 ⟨hP.var,hP.proc,fun v hv=>by rcases List.mem_append.1 hv with h | h;exact hP.tran v h;rw [List.mem_singleton.1 h];exact hsm,hP.names⟩ (by omega) (by omega) (by simp;omega) hw
     ·have ht':=eq_false ht
      generalize (a :: r).length=N at *
      simp (disch:=first | exact dD _ | assumption) only [↓reduceIte,↓rK,rP,h0',hW,i0,hv',hp',ht'] at hw
      exact nil _ _ hw
theorem PM.kind {τ:St} {a b c:V} {vs:List Var} {ps:List Bl} {ts:List Bi} (h:PM τ a b c vs ps ts):(V.agg [a,b,c]).kind≠0:=by
 obtain ⟨bv,bp,bt,h1,h2,h3,_⟩:=h.ls
 have:=Ik h1
 rw [E4,BI];omega
set_option maxHeartbeats 8000000 in
theorem o6 {call:SS.Call} {pt:B→Bi×Bool} (h:Q5 call pt) (h1: ∀ (s:B) (c:UInt8) τ,s.length<1000000→call 10 [.str s,.int .u8 (by8 c)] τ=some ((AA AC).enc (cut c s),τ))
 (h2: ∀ (v:V) (m:AQ) τ,Ao m→Bb env τ [v]=some [AU.enc m]→call 8 [v] τ=some (.bool m.right,τ)) {k:Nat} (s:B) (hk:70000<k) :
 ∃ v σ,t27 call k [.str s] .empty=some (v,σ)∧((∃ e a:Int,v=.tup [.agg [.nilS,.nilS,.nilS],.int .i64 e,.int .i64 a]∧e≠0) ∨
  ∃ m:AQ,v.kind≠0∧frz env σ 64 v=some ((LA AU AJ AJ).enc (m,0,0))∧m.right=true∧Ao m∧∀ p∈m.procs,∃ L∈cut 10 s,BC L=[112,114,111,99] :: p.name :: p.locs):=by
 have hst: ∀ (σ:St),σ.get 0=some (.blk [.nilS,.nilS,.nilS] 30 0 false)→storeAt env 30 (.ptr 0 0 0) (.agg [.nilS,.nilS,.nilS]) σ=some (σ.put 0 (.blk [.nilS,.nilS,.nilS] 30 0 false)):=fun σ hg=>Et Jw hg rfl rfl rfl
 generalize hw:t27 call k [.str s] .empty=w
 unfold t27 at hw
 by_cases hlong:(60000:Int)<(s.length:Int)
 ·have hst':=hst (St.empty.new (.blk [.nilS,.nilS,.nilS] 30 0 false)) rfl
  have hl':=eq_true hlong
  simp (disch:=first | exact dD _ | assumption) only [↓reduceIte,↓rK,rP,AL,Nat.reduceAdd,hl',hst'] at hw
  exact ⟨_,_,hw.symm,.inl ⟨14,0,rfl,by decide⟩⟩
 ·have hl':=eq_false hlong
  have hc:=fun τ=>h1 s 10 τ (by omega)
  rw [show by8 10=10 from rfl] at hc
  have hcl:=Gz 10 s
  have hcs: ∀ w∈cut 10 s,w.length<90000:=fun w hw=>by have:=OP 10 s w hw;omega
  generalize hL:cut 10 s=l at *
  have hlen:l.length<900000:=by omega
  obtain ⟨e,vs',σ,g1,g2,g3⟩:=Br (P:=t27_2 call k) (Inv:=fun r v τ=>∃ (i:Nat) (st:Int) (xv xp xt:V) (vs:List Var) (ps:List Bl) (ts:List Bi),r+i=l.length∧v=[.ptr 0 0 0,.ptr 1 0 0,.int .i64 st,(AA AC).enc l,.int .i64 (i:Int)]∧PM τ xv xp xt vs ps ts∧PMs l vs ps ts∧vs.length≤i∧ps.length≤i∧ts.length≤i)
   (Q:=fun y=>(y.1=.exit 0∧y.2.1=[.ptr 0 0 0,.ptr 1 0 0]∧∃ (xv xp xt:V) (vs:List Var) (ps:List Bl) (ts:List Bi),PM y.2.2 xv xp xt vs ps ts∧PMs l vs ps ts∧vs.length<1000000∧ps.length<1000000∧ts.length<1000000)∨(y.1=.ret∧∃ a:Int,y.2.1=[.agg [.nilS,.nilS,.nilS],.int .i64 2,.int .i64 a]))
   (by
     rintro r v τ ⟨i,st,xv,xp,xt,vs,ps,ts,hr,rfl,hI,hP,l1,l2,l3⟩
     by_cases hi:i<l.length
     ·obtain ⟨σ,f⟩:=pU h (k:=k) l hlen hcs i hi st τ hI hP l1 l2 l3
      rcases f with ⟨st',xv',xp',xt',vs',ps',ts',f1,f2,f3,f4,f5,f6⟩ | f
      ·exact .inl ⟨r - 1,_,σ,by omega,f1,i+1,st',xv',xp',xt',vs',ps',ts',by omega,rfl,f2,f3,f4,f5,f6⟩
      ·exact .inr ⟨_,_,σ,f,(by intro h;cases h),.inr ⟨rfl,_,rfl⟩⟩
     ·have he:i=l.length:=by omega
      subst he
      refine .inr ⟨.exit 0,[.ptr 0 0 0,.ptr 1 0 0],τ,?_,(by intro h;cases h),.inl ⟨rfl,rfl,xv,xp,xt,vs,ps,ts,hI,hP,by omega,by omega,by omega⟩⟩
      unfold t27_2
      simp (disch:=first | exact dD _ | assumption) only [↓reduceIte,↓rK,rP])
   l.length k [.ptr 0 0 0,.ptr 1 0 0,.int .i64 0,(AA AC).enc l,.int .i64 0] ((St.empty.new (.blk [.nilS,.nilS,.nilS] 30 0 false)).new (.blk [.nilS,.nilS,.nilS] 30 0 false)) (by omega)
   ⟨0,0,.nilS,.nilS,.nilS,[],[],[],by omega,rfl,⟨rfl,rfl,by decide,2,3,4,DI _ _ _ _,DI _ _ _ _,DI _ _ _ _,by omega,by omega,by omega,by omega,by omega,by omega⟩,⟨by simp,by simp,by simp,by simp⟩,by simp,by simp,by simp⟩
  simp (disch:=first | exact dD _ | assumption) only [↓reduceIte,↓rK,rP,hl',hc,g1] at hw
  rcases g3 with ⟨q1,q2,xv,xp,xt,vs,ps,ts,hI,hP,l1,l2,l3⟩ | ⟨q1,a,q2⟩
  ·simp only at q1 q2 hI
   subst q1 q2
   unfold t27_3 at hw
   have hm:=hI.m
   obtain ⟨bv,bp,bt,f1,f2,f3,_⟩:=hI.ls
   have sm:Ao ⟨vs,ps,ts⟩:=⟨l1,hP.var,l2,hP.proc,l3,hP.tran⟩
   have hr:=h2 (.agg [xv,xp,xt]) ⟨vs,ps,ts⟩ σ sm (bS hI.kind (Tf (n:=63) (by omega) f1 f2 f3))
   have hst':=hst σ hI.z
   have hst2:storeAt env 30 (.ptr 0 0 0) (.agg [xv,xp,xt]) σ=some (σ.put 0 (.blk [xv,xp,xt] 30 0 false)):=Et Jw hI.z rfl rfl (by simp [V.cells,BM,f1.one,f2.one,f3.one])
   cases hmr:AQ.right ⟨vs,ps,ts⟩ with
   | false =>
    rw [hmr] at hr
    simp (disch:=first | exact dD _ | assumption) only [↓reduceIte,↓rK,rP,AL,Nat.reduceAdd,hm,hr,hst'] at hw
    exact ⟨_,_,hw.symm,.inl ⟨2,0,rfl,by decide⟩⟩
   | true =>
    rw [hmr] at hr
    simp (disch:=first | exact dD _ | assumption) only [↓reduceIte,↓rK,rP,AL,Nat.reduceAdd,hm,hr,hst2] at hw
    refine ⟨_,_,hw.symm,.inr ⟨⟨vs,ps,ts⟩,?_,?_,hmr,sm,hP.names⟩⟩
    ·rw [Hg,BI]
     have:=hI.kind
     omega
    ·have hn:=hI.n
     obtain ⟨cv,cp,ct,e1,e2,e3,d1,d2,d3,_⟩:=hI.ls
     have o: ∀ {ty sz v n cs b},Lst σ ty sz v n cs b→2≤b→Lst (σ.put 0 (.blk [xv,xp,xt] 30 0 false)) ty sz v n cs b:=fun h hb=>h.of (fun _=>by rw [St.zAG,if_neg (by omega)]) (Nat.le_refl _)
     show (match [V.agg [xv,xp,xt],.int .i64 0,.int .i64 0].mapM (frz env _ 63) with | some ys=>some (V.tup ys) | none=>none)=_
     rw [List.mapM_cons,List.mapM_cons,List.mapM_cons,List.mapM_nil,Tf (n:=62) (by omega) (o e1 d1) (o e2 d2) (o e3 d3)]
     rfl
  ·simp only at q1 q2
   subst q1 q2
   simp (disch:=first | exact dD _ | assumption) only [↓rK,rP,AL] at hw
   exact ⟨_,_,hw.symm,.inl ⟨2,a,rfl,by decide⟩⟩
structure LY (C:Nat→SS.Call) (l:List Int):Prop where
 next: ∀ (a:Nat) (m:Int) τ,a<1000000→0<m→m<1000→Fd τ 0 l a→∃ (r:Int) (σ:St) (a':Nat),(∀ k,1≤k→C k 73 [.ptr 0 0 0,.int .i64 m] τ=some (.int .i64 r,σ))∧0≤r∧r<m∧Fed τ σ 0 l a a'∧a'≤a+1
 guard: ∀ (a:Nat) τ,a<900000→Fd τ 0 l a→∃ (s:B) (σ:St) (a':Nat),(∀ k,2≤k→C k 74 [.ptr 0 0 0] τ=some (.str s,σ))∧Bf s∧s.length≤20∧Fed τ σ 0 l a a'∧a'≤a+2
 small: ∀ (a:Nat) τ,a<900000→Fd τ 0 l a→∃ (s:B) (σ:St) (a':Nat),(∀ k,2≤k→C k 76 [.ptr 0 0 0] τ=some (.str s,σ))∧Bf s∧s.length≤20∧Fed τ σ 0 l a a'∧a'≤a+3
 expr: ∀ (a:Nat) τ,a<500000→Fd τ 0 l a→∃ (K:Nat) (s:B) (σ:St) (a':Nat),(∀ k,K≤k→C k 75 [.ptr 0 0 0,.int .i64 2] τ=some (.str s,σ))∧Bf s∧s.length≤1000∧Fed τ σ 0 l a a'∧a'≤a+1000
theorem Sl (a b c:B):CD env 91 [(0,(V.str a)),(1,(V.str b)),(2,(V.str c))]=some (.agg [.str a,.str b,.str c]):=by kernel_rfl
theorem Tn (a b c:B) (n:Nat) (hn:n<3): ∃ s,s∈[a,b,c]∧C5 env 91 (.agg [.str a,.str b,.str c]) (.int .i64 (n:Int))=some (.str s):=by
 have:n=0∨n=1∨n=2:=by omega
 rcases this with rfl | rfl | rfl
 ·exact ⟨a,by simp,by kernel_rfl⟩
 ·exact ⟨b,by simp,by kernel_rfl⟩
 ·exact ⟨c,by simp,by kernel_rfl⟩
set_option maxHeartbeats 8000000 in
theorem vB {C:Nat→SS.Call} {l:List Int} (hF:LY C l) {k:Nat} (hk:3≤k) (a:Nat) (ha:a<400000) (τ:St) (hq:Fd τ 0 l a) (s:B) (hs:Bf s) (hsl:s.length≤100000) (kk i:Int) (hi:i<kk) (h0:0≤i) (h9:i<100) :
 ∃ s' σ a',t52_1 (C k) k [.ptr 0 0 0,.str s,.int .i64 kk,.int .i64 i] τ=some (.norm,[.ptr 0 0 0,.str s',.int .i64 kk,.int .i64 (i+1)],σ)∧Bf s'∧s'.length≤s.length+60∧Fed τ σ 0 l a a'∧a'≤a+20:=by
 obtain ⟨r1,σ1,a1,c1,x0,x1,f1,g1⟩:=hF.next a 2 τ (by omega) (by omega) (by omega) hq
 obtain ⟨e2,σ2,a2,c2,y0,y1,f2,g2⟩:=hF.small a1 σ1 (by omega) f1.1
 obtain ⟨r3,σ3,a3,c3,z0,z1,f3,g3⟩:=hF.next a2 6 σ2 (by omega) (by omega) (by omega) f2.1
 obtain ⟨n1,rfl⟩: ∃ n:Nat,r1=(n:Int):=⟨r1.toNat,by omega⟩
 obtain ⟨v,hv10,hix,hld⟩:=LC n1 (by omega)
 have c1:=c1 k (by omega)
 have c2:=c2 k (by omega)
 have c3:=c3 k (by omega)
 have hi':=eq_true hi
 generalize hw:t52_1 (C k) k [.ptr 0 0 0,.str s,.int .i64 kk,.int .i64 i] τ=w
 unfold t52_1 t52_0 at hw
 have pre:Bf (s++[32,59,32]++[v]++[32,61,32]):=((hs.app (BK (by decide))).app (ED hv10)).app (BK (by decide))
 by_cases h30:r3=0
 ·have h30':=eq_true h30
  simp (disch:=first | exact dD _ | assumption) only [↓reduceIte,↓rK,rP,hi',c1,hix,hld,c2,c3,h30'] at hw
  exact ⟨_,σ3,a3,hw.symm,pre.app y0,by simp;omega,(f1.trans f2).trans f3,by omega⟩
 ·have h30':=eq_false h30
  by_cases h31:r3=1
  ·have h31':=eq_true h31
   simp (disch:=first | exact dD _ | assumption) only [↓reduceIte,↓rK,rP,hi',c1,hix,hld,c2,c3,h30',h31'] at hw
   exact ⟨_,σ3,a3,hw.symm,pre.app (BK (by decide)),by simp<;>omega,(f1.trans f2).trans f3,by omega⟩
  ·have h31':=eq_false h31
   obtain ⟨r4,σ4,a4,c4,u0,u1,f4,g4⟩:=hF.next a3 2 σ3 (by omega) (by omega) (by omega) f3.1
   obtain ⟨r5,σ5,a5,c5,w0,w1,f5,g5⟩:=hF.next a4 3 σ4 (by omega) (by omega) (by omega) f4.1
   obtain ⟨n4,rfl⟩: ∃ n:Nat,r4=(n:Int):=⟨r4.toNat,by omega⟩
   obtain ⟨n5,rfl⟩: ∃ n:Nat,r5=(n:Int):=⟨r5.toNat,by omega⟩
   obtain ⟨u,hu10,hix2,hld2⟩:=LC n4 (by omega)
   have hbr:V.beq (.str [u]) (.str [u])=true:=V.beq_refl _
   obtain ⟨e,he1,he2⟩:=Tn ([49,45,40]++[v]++[61,61,49,41]) ([40]++[v]++[60,49,41]) ([40]++[u]++[61,61,48,41]) n5 (by omega)
   have c4:=c4 k (by omega)
   have c5:=c5 k (by omega)
   have hec:Bf e∧e.length≤20:=by
    simp only [List.mem_cons,List.not_mem_nil,or_false] at he1
    rcases he1 with rfl | rfl | rfl
    ·exact ⟨((BK (by decide)).app (ED hv10)).app (BK (by decide)),by simp⟩
    ·exact ⟨((BK (by decide)).app (ED hv10)).app (BK (by decide)),by simp⟩
    ·exact ⟨((BK (by decide)).app (ED hu10)).app (BK (by decide)),by simp⟩
   simp (disch:=first | exact dD _ | assumption) only [↓reduceIte,↓rK,rP,hi',c1,hix,hld,c2,c3,h30',h31',c4,hix2,hld2,Sl,c5,hbr,he2] at hw
   exact ⟨_,σ5,a5,hw.symm,pre.app hec.1,by have:=hec.2;simp;omega,(((f1.trans f2).trans f3).trans f4).trans f5,by omega⟩
theorem V1:CD env 119 [(0,(V.str [45])),(1,(V.str [45])),(2,(V.str [45])),(3,(V.str [45])),(4,(V.str [99,33])),(5,(V.str [99,63])),(6,(V.str [100,33])),(7,(V.str [99,63]))] =
 some (.agg [.str [45],.str [45],.str [45],.str [45],.str [99,33],.str [99,63],.str [100,33],.str [99,63]]):=by kernel_rfl
theorem uX:CD env 120 [(0,(V.int .i64 0)),(1,(V.int .i64 1)),(2,(V.int .i64 1)),(3,(V.int .i64 2))]=some (.agg [.int .i64 0,.int .i64 1,.int .i64 1,.int .i64 2]):=by kernel_rfl
theorem uY (n:Nat) (hn:n<4): ∃ m:Int,0≤m∧m≤2∧C5 env 120 (.agg [.int .i64 0,.int .i64 1,.int .i64 1,.int .i64 2]) (.int .i64 (n:Int))=some (.int .i64 m):=by
 have:n=0∨n=1∨n=2∨n=3:=by omega
 rcases this with rfl | rfl | rfl | rfl
 ·exact ⟨0,by decide,by decide,by kernel_rfl⟩
 ·exact ⟨1,by decide,by decide,by kernel_rfl⟩
 ·exact ⟨1,by decide,by decide,by kernel_rfl⟩
 ·exact ⟨2,by decide,by decide,by kernel_rfl⟩
theorem TM (l:List Int):V.cellsF (.agg [(AA AJ).enc l,.int .i64 0])=[(AA AJ).enc l,.int .i64 0]:=by rw [V.zAB];rfl
theorem WD {C:Nat→SS.Call} {l:List Int} (hF:LY C l) {k:Nat} (hk:10≤k) (a:Nat) (ha:a<300000) (τ:St) (hq:Fd τ 0 l a) (s g:B) (hs:Bf s) (hg:Bf g) (hsl:s.length≤100) (hgl:g.length≤1000) :
 ∃ s' σ,t52_3 (C k) k [.ptr 0 0 0,.str s,.str g] τ=some (.ret,[.str s'],σ)∧Bf s'∧s'.length≤2000:=by
 obtain ⟨r1,σ1,a1,c1,x0,x1,f1,g1⟩:=hF.next a 4 τ (by omega) (by omega) (by omega) hq
 obtain ⟨n1,rfl⟩: ∃ n:Nat,r1=(n:Int):=⟨r1.toNat,by omega⟩
 obtain ⟨m,m0,m2,hm⟩:=uY n1 (by omega)
 have c1:=c1 k (by omega)
 obtain ⟨e,vs',σ,q1,q2,q3⟩:=Br (P:=t52_1 (C k) k) (Inv:=fun r vs τ=>∃ (i:Nat) (s':B) (a':Nat),r+i=m.toNat∧vs=[.ptr 0 0 0,.str s',.int .i64 m,.int .i64 (i:Int)]∧Bf s'∧s'.length≤1100+60*i∧Fd τ 0 l a'∧a'≤a+1+20*i)
  (Q:=fun y=>y.1=.exit 0∧∃ s',y.2.1=[.str s']∧Bf s'∧s'.length≤2000)
  (by
    rintro r vs τ ⟨i,s',a',hr,rfl,h1,h2,h3,h4⟩
    by_cases hi:(i:Int)<m
    ·obtain ⟨s2,σ,a2,f1,f2,f3,f4,f5⟩:=vB hF (k:=k) (by omega) a' (by omega) τ h3 s' h1 (by omega) m (i:Int) hi (by omega) (by omega)
     exact .inl ⟨r - 1,_,σ,by omega,f1,i+1,s2,a2,by omega,rfl,f2,by omega,f4.1,by omega⟩
    ·have hi':=eq_false hi
     refine .inr ⟨.exit 0,[.str s'],τ,?_,(by intro h;cases h),rfl,s',rfl,h1,by omega⟩
     unfold t52_1
     simp (disch:=first | exact dD _ | assumption) only [↓reduceIte,↓rK,rP,hi'])
  m.toNat k [.ptr 0 0 0,.str (s++g),.int .i64 m,.int .i64 0] σ1 (by omega) ⟨0,s++g,a1,by omega,rfl,hs.app hg,by simp;omega,f1.1,by omega⟩
 obtain ⟨q3,s',q4,q5,q6⟩:=q3
 simp only at q3 q4
 subst q3 q4
 refine ⟨s',σ,?_,q5,q6⟩
 unfold t52_3 t52_2
 simp (disch:=first | exact dD _ | assumption) only [↓rK,rP,uX,c1,hm,q1]
set_option maxHeartbeats 32000000 in
theorem vC {C:Nat→SS.Call} {l:List Int} (hF:LY C l) (n:Int) (h0:0<n) (h3:n≤3) :
 ∃ k s σ,t52 (C k) k [(AA AJ).enc l,.int .i64 n] .empty=some (.str s,σ)∧Bf s∧s.length≤2000:=by
 have hq:Fd (St.empty.new (.blk [(AA AJ).enc l,.int .i64 0] 116 0 false)) 0 l 0:=rfl
 generalize hτ:St.empty.new (.blk [(AA AJ).enc l,.int .i64 0] 116 0 false)=τ at hq
 obtain ⟨r1,σ1,a1,c1,x0,x1,f1,g1⟩:=hF.next 0 n τ (by omega) (by omega) (by omega) hq
 obtain ⟨r2,σ2,a2,c2,y0,y1,f2,g2⟩:=hF.next a1 3 σ1 (by omega) (by omega) (by omega) f1.1
 obtain ⟨r3,σ3,a3,c3,z0,z1,f3,g3⟩:=hF.next a2 3 σ2 (by omega) (by omega) (by omega) f2.1
 obtain ⟨r4,σ4,a4,c4,w0,w1,f4,g4⟩:=hF.next a3 8 σ3 (by omega) (by omega) (by omega) f3.1
 obtain ⟨gd,σ5,a5,c5,u0,u1,f5,g5⟩:=hF.guard a4 σ4 (by omega) f4.1
 obtain ⟨r6,σ6,a6,c6,t0,t1,f6,g6⟩:=hF.next a5 9 σ5 (by omega) (by omega) (by omega) f5.1
 obtain ⟨K,e7,σ7,a7,c7,p0,p1,f7,g7⟩:=hF.expr a6 σ6 (by omega) f6.1
 obtain ⟨n1,rfl⟩: ∃ n:Nat,r1=(n:Int):=⟨r1.toNat,by omega⟩
 obtain ⟨n2,rfl⟩: ∃ n:Nat,r2=(n:Int):=⟨r2.toNat,by omega⟩
 obtain ⟨n3,rfl⟩: ∃ n:Nat,r3=(n:Int):=⟨r3.toNat,by omega⟩
 obtain ⟨n4,rfl⟩: ∃ n:Nat,r4=(n:Int):=⟨r4.toNat,by omega⟩
 obtain ⟨p,hp10,hpx,hpd⟩:=U8 n1 (by omega)
 obtain ⟨b,hb10,hbx,hbd⟩:=Pf n2 (by omega)
 obtain ⟨c,hc10,hcx,hcd⟩:=Pf n3 (by omega)
 obtain ⟨sy,hs1,hs2⟩:=Tp [45] [45] [45] [45] [99,33] [99,63] [100,33] [99,63] n4 (by omega)
 have hsy:Bf sy∧sy.length≤2:=by
  simp only [List.mem_cons,List.not_mem_nil,or_false] at hs1
  rcases hs1 with rfl | rfl | rfl | rfl | rfl | rfl | rfl | rfl<;>exact ⟨BK (by decide),by simp⟩
 have hbp:V.beq (.str [p]) (.str [p])=true:=V.beq_refl _
 have hbb:V.beq (.str [b]) (.str [b])=true:=V.beq_refl _
 have hbc:V.beq (.str [c]) (.str [c])=true:=V.beq_refl _
 have hsyl:=hsy.2
 obtain ⟨k,hk⟩: ∃ k,k=K+10:=⟨_,rfl⟩
 have pre:Bf ([p]++[32]++[b]++[32]++[c]++[32]++sy++[32]):=((((((((ED hp10).app (BK (by decide))).app (ED hb10)).app (BK (by decide))).app (ED hc10)).app (BK (by decide))).app hsy.1).app (BK (by decide)))
 have hpl:([p]++[32]++[b]++[32]++[c]++[32]++sy++[32]).length≤100:=by simp;omega
 have c1:=c1 k (by omega)
 have c2:=c2 k (by omega)
 have c3:=c3 k (by omega)
 have c4:=c4 k (by omega)
 have c5:=c5 k (by omega)
 have c6:=c6 k (by omega)
 have c7:=c7 k (by omega)
 obtain ⟨w,hw⟩: ∃ w,t52 (C k) k [(AA AJ).enc l,.int .i64 n] .empty=w:=⟨_,rfl⟩
 refine ⟨k,?_⟩
 rw [hw]
 unfold t52 at hw
 by_cases h68:r6=8
 ·have h68':=eq_true h68
  obtain ⟨s',σ,e1,e2,e3⟩:=WD hF (k:=k) (by omega) a7 (by omega) σ7 f7.1 _ e7 pre p0 hpl p1
  simp (disch:=first | exact dD _ | assumption) only [↓reduceIte,↓rK,rP,AL,↓BB,BB,TM,hτ,c1,hpx,hpd,c2,hbp,hbx,hbd,c3,hbb,hcx,hcd,V1,c4,hbc,hs2,c5,c6,h68',c7,e1] at hw
  exact ⟨_,_,hw.symm,e2,e3⟩
 ·have h68':=eq_false h68
  obtain ⟨s',σ,e1,e2,e3⟩:=WD hF (k:=k) (by omega) a6 (by omega) σ6 f6.1 _ gd pre u0 hpl (by omega)
  simp (disch:=first | exact dD _ | assumption) only [↓reduceIte,↓rK,rP,AL,↓BB,BB,TM,hτ,c1,hpx,hpd,c2,hbp,hbx,hbd,c3,hbb,hcx,hcd,V1,c4,hbc,hs2,c5,c6,h68',e1] at hw
  exact ⟨_,_,hw.symm,e2,e3⟩
end Go.Proofs.YtglndmmlghpdpaaGreatDoor
