/-
  part 15 of the proof; no condition.
-/
import Derived.Test.YtglndmmlghpdpaaGreatDoorPN
import Derived.Test.YtglndmmlghpdpaaGreatDoorTie
import Derived.Test.YtglndmmlghpdpaaGreatDoorCards
import Derived.ProofKit
import Derived.OpenShut
import Derived.LaidMore
import Derived.Lay
import Derived.SevenTiedAt
import Derived.Stop.Joined
namespace SS
open Go
theorem nJ {H:Type} {enc:TypeId×Value→H} {a:Assume} {C:Checked} {os:Os} {f:FuncId} {fn:Func} {s:ChangeSpec} {conds:List PathCond} {apart fresh handsOn again:Bool} {X:World→Array Value→Prop}
 (hX: ∀ (w w':World) (args:Array Value),w.heap=w'.heap→X w args→X w' args)
 (own:ownKnob C.prog.godebug=none) (started:os.Started) (noInit:C.prog.inits.idxOf? f=none) (hfn:C.prog.funcs[f]? = some fn)
 (witness: ∃ (w:World) (tape:Tape) (i:Input),w.os=os∧(w.forCall tape i).Shaped C.prog∧i.vars=[]∧Input.okWide C.prog (w.forCall tape i) .any w.heap.size f i ∧
   ((s.pre enc C.prog fn conds apart (w.forCall tape i).memory i.args∧X (w.forCall tape i).memory i.args)∧sizedMet enc C.prog fn (OpenSpec.ofChange s) apart (w.forCall tape i).memory i.args)∧a.holds C.prog (lone (Frame.enter C.prog f i.args .normal) [] (w.forCall tape i)))
 (contract: ∀ (W:World) (base:Nat) (args:Array Value) (ds gs:List (DataW H)) (before:List MemPlace),
   (∀ (j:Nat) t v,fn.params[j]? = some t→args[j]? = some v→Value.okWide C.prog W .any base t v) →
   DataW.Whole enc C.prog fn.params.toList s.vars apart W args.toList ds gs before→X W args→W.ShapedOpen C.prog →
   Calls C.prog f args W fun e W'=>∃ v,e=.returned v∧s.post enc C.prog fn apart fresh handsOn again W args v W') :
 ReturnsInHanded a C os f .any (fun w args=>(s.pre enc C.prog fn conds apart w args∧X w args)∧sizedMet enc C.prog fn (OpenSpec.ofChange s) apart w args) (s.post enc C.prog fn apart fresh handsOn again):=by
 refine returnsInHanded_of_calls own started noInit witness ?_
 intro w tape i _ hsh _ hok hpre _
 obtain ⟨_,_,_,fn',hfn',_,_,_,_,hval⟩:=hok
 obtain rfl:fn'=fn:=Option.some.inj (hfn'.symm.trans hfn)
 obtain ⟨⟨⟨ds,gs,before,hw,_⟩,hx⟩,_⟩:=hpre
 have hw':=DataW.Whole.of_heap (w':=w.forCall tape i) (by rfl) hw
 refine (contract (w.forCall tape i) w.heap.size i.args ds gs before hval hw' (hX _ _ _ (by rfl) hx) hsh).mono fun e W' ⟨v,he,hp⟩=>?_
 subst he
 exact ChangeSpec.post_blind hp
theorem jF {E:Env} {f:FuncId} {g:Ac} (h:Am E f g) {fn:Func} {c:Code} (hf:E.P.funcs[f]? = some fn) (hb:fn.body=some c) (hn:(fn.name== "runtime.NumGoroutine")=false) {ws us:List V} (hg:g ws=some (.bool true)) {w:World} {args:List Value}
 (hz:Ba E .empty us=some ws) (hgo:GOk E (DC w)) (hv:VRL (fun _=>none) (DC w) us args) :
 Calls E.P f args.toArray w fun | .returned v,w'=>v=.bool true∧w'.os=w.os∧w'.output=w.output∧∀ i,i<w.heap.size→w'.heap[i]? = w.heap[i]? | _,_=>False:=by
 have hn:fn.name≠ "runtime.NumGoroutine" := by simpa using hn
 rcases h hg hz (by rw [show (V.bool true).scal=true from rfl,Bool.or_true]) (o9 E.P w .empty) hgo hv with ⟨v',w',hrun,_⟩ | ⟨_,hcall⟩
 ·simp [callFunc,hf,hn,hb] at hrun
 ·refine hcall.mono fun e w' hh=>?_
  cases e with
  | panicked _=>exact hh.elim
  | outgrown=>exact hh.elim
  | returned v =>
   obtain ⟨ρ',M',s,hv⟩:=hh
   cases hv
   exact ⟨rfl,s.os,s.output,fun i hi=>s.frame i hi fun _ _ h=>by cases h⟩
theorem Z7 {E:Env} {σ:St} {v u:V} (h:frz E σ 64 v=some u) (hd:v.dep≤64):(bif Nat.beq v.kind 0 then some v else frz E σ C4 v)=some u:=by
 cases hb:Nat.beq v.kind 0 with
 | false=>exact h
 | true =>
  have:=Su (E:=E) (σ:=σ) 64 v (Nat.eq_of_beq_eq_true hb) hd
  rw [this] at h
  exact h
theorem Z4 {E:Env} {σ:St} {v u a:V} (h:frz E σ 64 v=some u) (hd:v.dep≤64) (ha:a.kind=0):Ba E σ [v,a]=some [u,a]:=by
 have e:Ba E σ [v,a]=(match (bif Nat.beq v.kind 0 then some v else frz E σ C4 v),Ba E σ [a] with | some x,some xs=>some (x :: xs) | _,_=>none):=rfl
 rw [e,Z7 h hd,Gr (show V.kind.kinds [a]=0 by rw [BK,ha];rfl)]
end SS
namespace Go.Proofs.YtglndmmlghpdpaaGreatDoor
open Go SS
set_option maxRecDepth 100000
noncomputable section
theorem kQ {s:B} (hs:Cv s 16) {p:Bh} (h: ∃ L∈cut 10 s,Az L=[112,114,111,99] :: p.name :: p.locs):p.name≠[110,111,98,111,100,121]:=by
 obtain ⟨ls,rfl,h1,_⟩:=hs
 obtain ⟨L,hL,hw⟩:=h
 rw [Rl 10 ls fun l hl d hd=>(h1 l hl).2.1 d hd] at hL
 rcases List.mem_append.1 hL with hL | hL
 ·rcases (h1 L hL).1 with ⟨r,rfl⟩ | ⟨r,rfl⟩ | ⟨q,r,hq,rfl⟩
  ·rw [show ([118,97,114,32]++r:B)=[118,97,114]++32 :: r from rfl,NE _ _ (by simp) (by decide)] at hw
   simp at hw
  ·rw [show ([116,114,97,110,115,32]++r:B)=[116,114,97,110,115]++32 :: r from rfl,NE _ _ (by simp) (by decide)] at hw
   simp at hw
  ·rw [show ([112,114,111,99,32,q,32]++r:B)=[112,114,111,99]++32 :: ([q]++32 :: r) from rfl,NE _ _ (by simp) (by decide),NE [q] r (by simp) (by rcases hq with rfl | rfl | rfl<;>decide)] at hw
   simp at hw
   rw [←hw.1]
   simp
 ·rw [List.mem_singleton.1 hL] at hw
  simp [Az,cut] at hw
def Lz:List (FuncId×Ac):=(6,sp0 BC (some true)) :: L_67
theorem Mz:Dt env (AQ Lz):=Ay iM M_67
theorem YG:Qc (AV env pu (AQ Lz) (AU []) 1) mkF (fun m n=>hsF (m,n)) where
 known τ:=AL.at0 (c:=BC) (F:=some true) (show AL env (AV env pu (AQ Lz) (AU []) 1) 6 (sp0 BC (some true)) from BP rfl (Nat.le_refl 1)) rfl τ
 model x τ:=AL.c1 (show AL env (AV env pu (AQ Lz) (AU []) 1) 7 S_7 from BP rfl (Nat.le_refl 1)) (x:=x) trivial τ
 small x:=(Pk (txF x) trivial).2.1
 names x h p hp:=kQ (Vi x trivial).2 ((Pk (txF x) trivial).2.2.1 h p hp)
 rightM m τ h:=AL.c1 (show AL env (AV env pu (AQ Lz) (AU []) 1) 8 S_8 from BP rfl (Nat.le_refl 1)) (x:=m) h τ
 state m n τ h1 h2:=AL.c2 (show AL env (AV env pu (AQ Lz) (AU []) 1) 9 S_9 from BP rfl (Nat.le_refl 1)) (x:=m) (y:=n) ⟨h1,h2⟩ τ
 fits m n h1 h2:=(S9 (m,n) ⟨h1,h2⟩).2
 print m s τ h1 h2:=AL.c2 (show AL env (AV env pu (AQ Lz) (AU []) 1) 11 S_11 from BP rfl (Nat.le_refl 1)) (x:=m) (y:=s) ⟨h1,h2⟩ τ
 cut s c τ h:=OB (BP rfl (Nat.le_refl 1)) s c τ h
 right m s τ h1 h2:=AL.c2 (show AL env (AV env pu (AQ Lz) (AU []) 1) 12 S_12 from BP rfl (Nat.le_refl 1)) (x:=m) (y:=s) ⟨h1,h2⟩ τ
 place m s q τ h1 h2:=AL.c3 (show AL env (AV env pu (AQ Lz) (AU []) 1) 13 S_13 from BP rfl (Nat.le_refl 1)) (x:=m) (y:=s) (z:=q) ⟨h1,h2⟩ τ
 place0 m q τ h:=AL.f3 (show AL env (AV env pu (AQ Lz) (AU []) 1) 13 S_13 from BP rfl (Nat.le_refl 1)) (x:=m) (y:=⟨[],[]⟩) (z:=q) ⟨h,by decide,by decide⟩ (by
  have e:Ba env τ [AX.enc m,.agg [.nilS,.nilS],.str q]=(match (bif Nat.beq (AX.enc m).kind 0 then some (AX.enc m) else frz env τ C4 (AX.enc m)),Ba env τ [.agg [.nilS,.nilS],.str q] with | some x,some xs=>some (x :: xs) | _,_=>none):=rfl
  rw [e,AX.zero];rfl) (.inr rfl)
 amount s τ h:=AL.c1 (show AL env (AV env pu (AQ Lz) (AU []) 1) 14 S_14 from BP rfl (Nat.le_refl 1)) (x:=s) h τ
theorem iO:Am env 3 (CP D5 Aa BC (fun _ _=>True) (fun _ _=>true)):=kc2 (lm:=Lz) (lt:=[]) A7 Mz A9 eG fun x n _=>by
 obtain ⟨σ,e⟩:=mB YG (k:=2000000) (by omega) x n
 exact ⟨1,2000000,_,σ,e,Bf (t:=BC) (x:=true)⟩
end
end Go.Proofs.YtglndmmlghpdpaaGreatDoor
namespace Go.Proofs.YtglndmmlghpdpaaGreatDoor
open Go Go.ChangeShapes Go.WideShapes Go.ChangeAt Go.RowKit
set_option maxRecDepth 100000
theorem own:ownKnob Tryz.prog.godebug=none:=by kernel_rfl
noncomputable def mI:List Int:=[1,10,100,1000,10000,100000,1000000,10000000,100000000,1000000000,10000000000,100000000000,1000000000000,10000000000000,100000000000000,1000000000000000,10000000000000000,100000000000000000,1000000000000000000,10000000000000000000]
theorem Zc {W:World} (hL:laidMetH Tryz.prog Rows.statePlacesRow.laid W) (g:Nat) (cs:List SS.V) (hg:env.G g=some cs):(∃ kd zs,cs=zs.map (SS.V.int kd)∧SS.Na W g kd zs)∨(cs=[.opq]∧SS.Qk W g)∨(∃ zs,cs=zs.map SS.V.str∧SS.NZ W g zs):=by
 rw [MakeChecks.laidMetH_plain _ _ _ (by kernel_rfl)] at hL
 have hm:=SS.PT.ofL_mem _ (show SS.PT.getF gT g=some cs from hg)
 simp only [List.mem_cons,List.not_mem_nil,or_false,Prod.mk.injEq] at hm
 rcases hm with ⟨rfl,rfl⟩ | ⟨rfl,rfl⟩ | ⟨rfl,rfl⟩ | ⟨rfl,rfl⟩
 ·exact .inl ⟨.u64,mI,rfl,SS.qJ (t:=183) (e:=131) (n:=20) (d:=Rows.laid_internal_strconv_uint64pow10) (by kernel_rfl) (by kernel_rfl) (by kernel_rfl) (by kernel_rfl) (by kernel_rfl) (by kernel_rfl) rfl (Lib.laidMet.reads hL (.tail _ (.tail _ (.head _))))⟩
 ·exact .inr (.inr ⟨[[120],[121],[122]],rfl,SS.P9 (t:=91) (e:=9) (n:=3) (d:=Rows.laid_lariat_lariathand_vars) (by kernel_rfl) (by kernel_rfl) (by kernel_rfl) (by kernel_rfl) (by kernel_rfl) (by kernel_rfl) rfl (Lib.laidMet.reads hL (.tail _ (.tail _ (.tail _ (.tail _ (.tail _ (.tail _ (.head _))))))))⟩)
 ·exact .inr (.inr ⟨[[112],[113],[114]],rfl,SS.P9 (t:=91) (e:=9) (n:=3) (d:=Rows.laid_lariat_lariathand_procs) (by kernel_rfl) (by kernel_rfl) (by kernel_rfl) (by kernel_rfl) (by kernel_rfl) (by kernel_rfl) rfl (Lib.laidMet.reads hL (.tail _ (.tail _ (.tail _ (.tail _ (.tail _ (.tail _ (.tail _ (.head _)))))))))⟩)
 ·exact .inr (.inr ⟨[[97],[98],[99],[100]],rfl,SS.P9 (t:=118) (e:=9) (n:=4) (d:=Rows.laid_lariat_lariathand_locs) (by kernel_rfl) (by kernel_rfl) (by kernel_rfl) (by kernel_rfl) (by kernel_rfl) (by kernel_rfl) rfl (Lib.laidMet.reads hL (.tail _ (.tail _ (.tail _ (.tail _ (.tail _ (.tail _ (.tail _ (.tail _ (.head _))))))))))⟩)
theorem O4 {n:Nat} {c:List SS.V} (h:SS.DF Tryz.prog (n+1) 3 c): ∃ z,c=[.int .i64 z]:=by
 unfold SS.DF at h
 rw [Tryz.underlying3] at h
 obtain ⟨z,h,_⟩:=h
 exact ⟨z,h⟩
theorem bR {H:Type} {enc:TypeId×Value→H} {w:World} {sp:Nat→Bool} {held:Bool} {r:Reach} {base base':Nat} {v:Value} {d:DataW H} {p:List MemPlace} (h:DataW.Trod enc Tryz.prog w base sp held 3 v d p) (ho:Value.okWide Tryz.prog w r base' 3 v) :
 ∃ n:Int,v=.int .i64 n:=by
 obtain ⟨n,rfl⟩:=okWide_int Tryz.underlying3 ho
 exact ⟨n,rfl⟩
theorem bU {n:Nat} {c:List SS.V} (h:SS.DF Tryz.prog (n+2) 33 c): ∃ (v:SS.V) (l:List Int),c=[v]∧v.dep≤2∧SS.DL Tryz.prog 33 c=v∧∀ k,SS.frz env .empty (k+2) v=some ((SS.AA SS.Aa).enc l):=by
 unfold SS.DF at h
 rw [Tryz.underlying33] at h
 have hpk: ∀ v:SS.V,SS.DL Tryz.prog 33 [v]=v:=fun v=>by
  unfold SS.DL
  rw [Tryz.underlying33]
  rfl
 rcases h with rfl | ⟨cells,rfl,_,h3⟩
 ·exact ⟨.nilS,[],rfl,by decide,hpk _,fun k=>rfl⟩
 ·have key: ∀ cells:List (List SS.V),(∀ c∈cells,SS.DF Tryz.prog (n+1) 3 c)→∃ l:List Int,cells.map (SS.DL Tryz.prog 3)=l.map (SS.V.int .i64):=by
   intro cells
   induction cells with
   | nil=>intro _;exact ⟨[],rfl⟩
   | cons c r ih =>
    intro h
    obtain ⟨l,e⟩:=ih fun x hx=>h x (by simp [hx])
    obtain ⟨z,rfl⟩:=O4 (h c (by simp))
    exact ⟨z :: l,by rw [List.map_cons,e,List.map_cons];congr 1⟩
  obtain ⟨l,e⟩:=key cells h3
  rw [e]
  refine ⟨_,l,rfl,?_,hpk _,fun k=>?_⟩
  ·have e2:(SS.V.lst (l.map (SS.V.int .i64)) false).dep=1+SS.V.dep.deps (l.map (SS.V.int .i64)):=rfl
   have:SS.V.dep.deps (l.map (SS.V.int .i64))≤1:=SS.KF.2 fun v hv=>by
    obtain ⟨a,_,rfl⟩:=List.mem_map.1 hv
    exact Nat.le_refl _
   omega
  ·match l with
   | []=>rfl
   | a :: r=>exact SS.Ot (t:=SS.AA SS.Aa) (d:=2) SS.U7.list (by omega) (a :: r)
theorem mX {H:Type} {enc:TypeId×Value→H} {w:World} {sp:Nat→Bool} {held:Bool} {r:Reach} {base base':Nat} {v:Value} {d:DataW H} {p:List MemPlace} (h:DataW.Trod enc Tryz.prog w base sp held 24 v d p) (ho:Value.okWide Tryz.prog w r base' 24 v) :
 ∃ (u:SS.V) (x:Raw),SS.VR (fun _=>none) (SS.DC w) u v∧u.dep≤64∧SS.frz env .empty 64 u=some (D5.enc x):=by
 obtain ⟨cs,rfl,_⟩:=okWide_struct Tryz.underlying24 ho
 obtain ⟨fuel,h⟩:=h
 obtain ⟨vs,h1,h2⟩:=SS.rM 5 fuel 24 _ _ (by kernel_rfl) h
 have h2:SS.VRL _ _ vs cs.toList:=h2
 unfold SS.DF at h1
 rw [Tryz.underlying24] at h1
 obtain ⟨parts,rfl,hlen,hp⟩:=h1
 match parts,hlen with
 | [a,b,c],_ =>
  obtain ⟨z1,rfl⟩:=O4 (hp 0 _ a rfl rfl)
  obtain ⟨z2,rfl⟩:=O4 (hp 1 _ b rfl rfl)
  have h3:SS.DF Tryz.prog 4 22 c:=hp 2 _ c rfl rfl
  unfold SS.DF at h3
  rw [Tryz.underlying22] at h3
  have fin: ∀ (t:SS.V) (l:List (List Int)),c=[t]→t.dep≤10→SS.frz env .empty 63 t=some ((SS.AA (SS.AA SS.Aa)).enc l)→∃ (u:SS.V) (x:Raw),SS.VR (fun _=>none) (SS.DC w) u (.agg cs)∧u.dep≤64∧SS.frz env .empty 64 u=some (D5.enc x):=by
   intro t l hc hd hf
   subst hc
   refine ⟨.agg [.int .i64 z1,.int .i64 z2,t],⟨z1,z2,l⟩,?_,?_,?_⟩
   ·have:cs=cs.toList.toArray:=by simp
    rw [this]
    exact .agg _ _ h2
   ·have:=SS.JH [.int .i64 z1,.int .i64 z2,t] 10 (by
     intro v hv
     simp at hv
     rcases hv with rfl | rfl | rfl
     ·exact Nat.le_add_left 1 9
     ·exact Nat.le_add_left 1 9
     ·exact hd)
    omega
   ·show (match [SS.V.int .i64 z1,.int .i64 z2,t].mapM (SS.frz env .empty 63) with | some ys=>some (SS.V.agg ys) | none=>none)=_
    rw [List.mapM_cons,List.mapM_cons,List.mapM_cons,List.mapM_nil,hf]
    rfl
  rcases h3 with rfl | ⟨cells,rfl,_,h4⟩
  ·exact fin .nilS [] rfl (by decide) rfl
  ·have key: ∀ cells:List (List SS.V),(∀ c∈cells,SS.DF Tryz.prog 3 33 c)→∃ l:List (List Int),(cells.map (SS.DL Tryz.prog 33)).mapM (SS.frz env .empty 62)=some (l.map (SS.AA SS.Aa).enc)∧(∀ v∈cells.map (SS.DL Tryz.prog 33),v.dep≤2)∧cells.length=l.length:=by
    intro cells
    induction cells with
    | nil=>intro _;exact ⟨[],rfl,by simp,rfl⟩
    | cons c r ih =>
     intro h
     obtain ⟨l,e1,e2,e3⟩:=ih fun x hx=>h x (by simp [hx])
     obtain ⟨v,li,rfl,g1,g2,g3⟩:=bU (n:=1) (h c (by simp))
     refine ⟨li :: l,?_,?_,by simp [e3]⟩
     ·rw [List.map_cons,List.mapM_cons,g2,g3 60,e1];rfl
     ·intro x hx
      rw [List.map_cons,g2] at hx
      rcases List.mem_cons.1 hx with rfl | hx
      ·exact g1
      ·exact e2 x hx
   obtain ⟨l,e1,e2,e3⟩:=key cells h4
   refine fin _ l rfl ?_ ?_
   ·have e4:(SS.V.lst (cells.map (SS.DL Tryz.prog 33)) false).dep=1+SS.V.dep.deps (cells.map (SS.DL Tryz.prog 33)):=rfl
    have:=SS.KF.2 e2
    omega
   ·match cells,l,e1,e3 with
    | [],[],_,_=>rfl
    | c :: r,li :: l,e1,_ =>
     show (match ((c :: r).map (SS.DL Tryz.prog 33)).mapM (SS.frz env .empty 62) with | some ys=>some (SS.V.lst ys false) | none=>none)=_
     rw [e1];rfl
end Go.Proofs.YtglndmmlghpdpaaGreatDoor
namespace Go.Proofs.YtglndmmlghpdpaaGreatDoor
open Go Go.ChangeShapes Go.WideShapes Go.ChangeAt Go.RowKit
set_option maxRecDepth 100000 in
theorem mC (os:Os) (started:os.Started) (H:Type) (enc:TypeId×Value→H) :
 ReturnsInHanded {} Tryz.checked os 3 .any (fun w args=>(Rows.statePlacesSpec.pre enc Tryz.prog Tryz.f3 Rows.statePlacesRow.domain false w args∧laidMetH Tryz.prog Rows.statePlacesRow.laid w)∧sizedMet enc Tryz.prog Tryz.f3 (OpenSpec.ofChange Rows.statePlacesSpec) false w args)
  (Rows.statePlacesSpec.post enc Tryz.prog Tryz.f3 false true false false):=by
 refine SS.nJ (C:=Tryz.checked) (X:=fun w _=>laidMetH Tryz.prog Rows.statePlacesRow.laid w) (fun _ _ _ hh h=>h.of_heap hh) own started (by kernel_rfl) Tryz.func3
  (ChangeSpec.witness_shaped (enc:=enc) (C:=Tryz.checked) (os:=os) (X:=fun w _=>laidMetH Tryz.prog Rows.statePlacesRow.laid w) false (World.laidAll Tryz.prog os Rows.statePlacesRow.laid) #[.agg #[.int .i64 0,.int .i64 0,.slice none 0 0],.int .i64 0] 8 (World.laidAll_os _ _ _)
    (World.shaped_of_ZipB (by kernel_rfl) (by kernel_rfl)) (by kernel_rfl) (by kernel_rfl) (by kernel_rfl)
    (by rw [MakeChecks.laidMetH_plain _ _ _ (by kernel_rfl)];exact laidMet_laidAll _ (by kernel_rfl) (by kernel_rfl))) ?_
 intro W base args ds gs before hval hW hL hsh
 have hW':=hW
 obtain ⟨p,q,hA0,hV,rfl,_,_⟩:=hW
 have hA:DataW.TrodAll enc Tryz.prog W 0 (fun _=>true) true Tryz.f3.params.toList args.toList ds p:=hA0
 obtain ⟨rfl,rfl⟩:=trodVars_none hV
 simp only [List.append_nil] at hW'
 have hlt:=hW'.lt
 have hback: ∀ W':World,(∀ i,i<W.heap.size→W'.heap[i]? = W.heap[i]?)→∀ sp:Nat→Bool,(∀ x∈p,sp x.block=true)→DataW.TrodAll enc Tryz.prog W' 0 sp true Tryz.f3.params.toList args.toList ds p :=
  fun W' hk sp hs=>SS.Vg (n:=6) hk (by kernel_rfl) hA hlt hs
 have hA2:=hA
 rw [Tryz.params3] at hA2
 obtain ⟨v1,v2,d1,d2,p1,p2,rfl,rfl,rfl,t1,t2⟩:=trodAll_two hA2
 obtain ⟨u,x,hu,hd,hf⟩:=mX t1 (hval 0 24 _ rfl rfl)
 obtain ⟨n,rfl⟩:=bR t2 (hval 1 3 _ rfl rfl)
 have hg:SS.CP D5 SS.Aa SS.BC (fun _ _=>True) (fun _ _=>true) [D5.enc x,SS.Aa.enc n]=some (.bool true):=SS.P4 (SS.Ig (P:=fun _:Raw×Int=>True) (g:=fun _:Raw×Int=>true) (x:=(x,n)) trivial)
 refine (SS.jF iO (c:=SS.I9 Tryz.f3) Tryz.func3 (by kernel_rfl) (by kernel_rfl) hg (us:=[u,.int .i64 n]) (args:=[v1,.int .i64 n]) (SS.Z4 hf hd rfl) (SS.aH (Zc hL) (idx hsh)) (.cons _ _ _ _ hu (.cons _ _ _ _ (.int _ _) .nil))).mono fun e W' he=>?_
 cases e with
 | panicked _=>exact he.elim
 | outgrown=>exact he.elim
 | returned v =>
  obtain ⟨rfl,hos,hout,hk⟩:=he
  exact ⟨_,rfl,mH (pa:=p1++p2) (pv:=[]) hW' (fun _ _ _=>trodAll_mk1 (shut_bool Tryz.underlying4 true)) (fun sp hs=>hback W' hk sp hs) (fun _ _=>rfl) (by simp) hos hout hk (ok_one (by kernel_rfl) rfl (okWide_bool_mk Tryz.underlying4 _))⟩
end Go.Proofs.YtglndmmlghpdpaaGreatDoor
