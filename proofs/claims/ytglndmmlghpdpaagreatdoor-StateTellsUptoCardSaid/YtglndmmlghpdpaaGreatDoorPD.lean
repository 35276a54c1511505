/-
  part 4 of the proof; no condition.
-/
import Derived.Test.YtglndmmlghpdpaaGreatDoorPC
import Derived.Defers
import Derived.RangeFuncOwn
import Derived.AtR
import Derived.Orders
namespace SS
open Go
def Nb (P:Program) (f:FuncId) (args:Array Value) (w:World) (R:Value->World->Prop):Prop :=
 (∃ v w',(callFunc f args).run P w=.ok (.value v) w'/\R v w') \/
 ((callFunc f args).run P w=.ok (.enter f args) w/\Calls P f args w λ| .returned v,w'=>R v w' | _,_=>False)
def FJ (E:Env):Prop:=∀ {ρ:Ren} {M:Mem} {w:World} {ev:Operand->Option V} {ev':Operand->Value} {o:Oper} {σ σ':St} {v:V},Aq E ev o.op σ=some (v,σ')->SR E.P ρ M σ w->GOk E M->EV ρ M ev ev' ->
 ∃ v' w' ρ' M',((execOp ev' o).run E.P w=.ok (.value v') w'\/((execOp ev' o).run E.P w=.ok .skip w'/\v'=undef))/\A8 E.P ρ M σ w ρ' M' σ' w'/\VR ρ' M' v v'
def FE (E:Env):Prop:=∀ {ρ:Ren} {M:Mem} {w:World} {b:Builtin} {ts:Array TypeId} {ty:TypeId} {cb:Array Bool} {vs:List V} {vs':List Value} {σ σ':St} {v:V},DC E b ts.toList vs σ=some (v,σ')->SR E.P ρ M σ w->GOk E M->VRL ρ M vs vs' ->
 ∃ v' w' ρ' M',(builtin b ts ty cb vs'.toArray).run E.P w=.ok (.value v') w'/\A8 E.P ρ M σ w ρ' M' σ' w'/\VR ρ' M' v v'
def Ew (E:Env) (call:SS.Call):Prop:=∀ {ρ:Ren} {M:Mem} {w:World} {f:FuncId} {vs:List V} {vs':List Value} {σ σ':St} {v:V},call f vs σ=some (v,σ')->SR E.P ρ M σ w->GOk E M->VRL ρ M vs vs' ->
 Nb E.P f vs'.toArray w λv' w'=>∃ ρ' M',A8 E.P ρ M σ w ρ' M' σ' w'/\VR ρ' M' v v'
section
variable {E:Env} {call:SS.Call}
theorem Lx {ρ:Ren} {M:Mem} {g:FuncId} {cap:List V} {x:Value} (h:VR ρ M (.fn g cap) x): ∃ cap',x=.func (.func g) #[] cap'/\VRL ρ M cap cap'.toList:=by
 cases h with
 | fn _ _ c h=>exact ⟨c.toArray,rfl,by simpa using h⟩
theorem FR.push {ρ:Ren} {M:Mem} {ms:List Nat} {fr:Fr} {a:Act} (h:FR ρ M ms fr a) {g:FuncId} {vs:List V} {cap args:Array Value} (hv:VRL ρ M vs (args++cap).toList) :
 FR ρ M ms { fr with d:=(g,vs) :: fr.d } { a with defers:={ target:=.fn (.func g) cap,args:=args } :: a.defers } :=
 ⟨h.tmps,h.size,.fn _ _ _ _ _ _ _ hv h.defers⟩
def Wd (F:Fence):Prop:=(∀ f,F.fn f)/\F.depth=none/\F.alive=false
theorem Wd.fenced {F:Fence} (h:Wd F) (P:Program) (m:Machine):m.fenced P F:=by
 intro g _;refine ⟨λe=>(by rw [h.2.2] at e;cases e),.inl (h.1 _),λf _=>h.1 f,λd hd=>?_⟩;rw [h.2.1] at hd;cases hd
theorem Wd.room {F:Fence} (h:Wd F) (n:Nat):F.room n:=λd hd=>by rw [h.2.1] at hd;cases hd
theorem Wd.steps {F:Fence} (h:Wd F) {P:Program} {m m':Machine} (hs:Steps P m m'):StepsIn (Machine.fenced P F) P m m':=(StepsIn.of_steps hs).mono λm _=>h.fenced P m
theorem Wd.comes {F:Fence} (h:Wd F) {P:Program} {m m':Machine} {e:Ending} (hs:Comes P m m' e):ComesIn (Machine.fenced P F) P m m' e:=by
 cases e with
 | returned v=>exact h.steps hs
 | panicked chain=>exact h.steps hs
 | outgrown=>exact hs
theorem Wd.calls {F:Fence} (h:Wd F) {n:Nat} {P:Program} {f:FuncId} {args:Array Value} {w:World} {R:Ending->World->Prop} (hc:Calls P f args w R):CallsIn F n P f args w R :=
 ⟨h.1 f,λcs _=>let ⟨e,w',fr,r,s,x⟩:=hc cs;⟨e,w',fr,r,h.comes s,x⟩⟩
theorem Wd.dep {F:Fence} (h:Wd F) {n:Nat}: F.depth.isSome=true->1<=n:=λe=>by rw [h.2.1] at e;cases e
theorem Qh:Wd Fence.wide:=⟨λ_=>trivial,rfl,rfl⟩
theorem sJ {F:Fence} {o:Oper} (h:F.round=none\/Ez o=true) (ρ:Operand->Value):o.semAt F.round ρ=execOp ρ o:=by
 rcases h with h | h
 ·rw [h];rfl
 ·refine Oper.semAt_eq _ _ _ λc hc=>?_
  simp [Ez,hc] at h
theorem I8 {F:Fence} (hF:Wd F) {n:Nat} {P:Program} {o:Oper} (hd:F.round=none\/Ez o=true) {a:Act} {w:World} {next:Act->World->Prop} {Q:Exit->Act->World->Prop}
 (h:o.uponIn F n P a next Q ((execOp a.eval o).run P w)):o.wpIn F n P a w next Q:=⟨λf _=>hF.1 f,by rw [sJ hd];exact h⟩
structure Dv (B:Nat) (ρ:Ren) (M:Mem) (w:World) (ms:List Nat):Prop where
 nodup:ms.Nodup
 at_: ∀ D∈ms,B<=D/\w.heap[D]? = some (.deferred (some []))/\(∀ b e,ρ b=some e->e.x≠D)/\M D=none
theorem Dv.nil (B:Nat) (ρ:Ren) (M:Mem) (w:World):Dv B ρ M w []:=⟨List.nodup_nil,λ_ h=>by cases h⟩
theorem Dv.step {P:Program} {B:Nat} {ρ ρ':Ren} {M M':Mem} {σ σ':St} {w w':World} {ms:List Nat} (h:Dv B ρ M w ms) (s:A8 P ρ M σ w ρ' M' σ' w'):Dv B ρ' M' w' ms:=by
 refine ⟨h.nodup,λD hD=>?_⟩;obtain ⟨h1,h2,h3,h4⟩:=h.at_ D hD;have hlt:D<w.heap.size:=(Array.getElem?_eq_some_iff.1 h2).1;refine ⟨h1,(s.frame D hlt h3).trans h2,λb e he hx=>?_,?_⟩
 ·rcases s.fresh b e he with ⟨b0,e0,h5,h6⟩ | h5
  ·exact h3 b0 e0 h5 (h6.trans hx)
  ·omega
 ·cases hm:M' D with
  | none=>rfl
  | some o =>
   rcases s.freshM D o hm with h5 | h5
   ·rw [h4] at h5;cases h5
   ·omega
theorem YF {F:Fence} {n:Nat} (hF:Wd F) (hval:FJ E) (hbi:FE E) (hcall:Ew E call) {ρ:Ren} {M:Mem} {ms:List Nat} {w:World} {o:Oper} {fr fr':Fr} {σ σ':St} {a:Act} {next:Act->World->Prop} {Q:Exit->Act->World->Prop}
 (hd:F.round=none\/Ez o=true) (h:Fl E call o fr σ=some (fr',σ')) (hsr:SR E.P ρ M σ w) (hg:GOk E M) (hfr:FR ρ M ms fr a)
 (hn: ∀ ρ' M' a' w',A8 E.P ρ M σ w ρ' M' σ' w'->FR ρ' M' ms fr' a'->next a' w'):o.wpIn F n E.P a w next Q:=by
 have hev:EV ρ M fr.ev a.eval:=λx v hx=>hfr.ev hx
 unfold Fl at h;split at h
 ·rename_i c ho;split at h
  ·rename_i vs hvs;have hvs':=KR hev hvs;dsimp only at h;split at h
   ·rename_i v σ1 hr;split at h
    ·rename_i fr1 hp;cases h;apply I8 hF hd;split at hr
     ·rename_i b hc;obtain ⟨v',w',ρ',M',h1,h2,h3⟩:=hbi (ty:=o.type) (cb:=(c.args.map λ| .const _=>true | _=>false)) hr hsr hg hvs';have hrun:(execOp a.eval o).run E.P w=.ok (.value v') w':=by
       simp only [execOp,ho,resolve,hc,Sem.run_bind,Sem.run_pure,Result.andThen_ok,invoke];rw [<-h1];congr 2;apply Array.ext';simp
      rw [hrun];exact hn _ _ _ _ h2 ((hfr.mono h2.g).put hp h3)
     ·rename_i f hc;split at hr
      ·rename_i g cap hf;obtain ⟨cap',hx,hcap⟩:=Lx (hfr.ev hf);have hrun:(execOp a.eval o).run E.P w=(callFunc g (c.args.map a.eval++cap')).run E.P w:=by
        simp only [execOp,ho,resolve,hc,hx,Deferred.ofValue,Sem.run_bind,Sem.run_pure,Result.andThen_ok,invoke,Array.empty_append]
       have hargs:(c.args.map a.eval++cap')=(c.args.toList.map a.eval++cap'.toList).toArray:=by apply Array.ext';simp
       rw [hrun,hargs];rcases hcall hr hsr hg (hvs'.append hcap) with ⟨v',w',h1,ρ',M',h2,h3⟩ | ⟨h1,h2⟩
       ·rw [h1];exact hn _ _ _ _ h2 ((hfr.mono h2.g).put hp h3)
       ·rw [h1];refine ⟨hF.dep,CallsIn.mono (hF.calls h2) λe w' he=>?_⟩;cases e with
        | returned v' =>
         obtain ⟨ρ',M',h2,h3⟩:=he;exact hn _ _ _ _ h2 ((hfr.mono h2.g).put hp h3)
        | panicked _=>exact he.elim
        | outgrown=>exact he.elim
      ·cases hr
     ·cases hr
    ·cases h
   ·cases h
  ·cases h
 ·rename_i c ho;split at h
  ·rename_i f vs hc hvs;split at h
   ·rename_i g cap hf;split at h
    ·rename_i fr1 hp;cases h;obtain ⟨cap',hx,hcap⟩:=Lx (hfr.ev hf);have hvs':=KR hev hvs;apply I8 hF hd;have hrun:(execOp a.eval o).run E.P w=.ok (.defer { target:=.fn (.func g) cap',args:=c.args.map a.eval }) w:=by
      simp only [execOp,ho,resolve,hc,hx,Deferred.ofValue,Sem.run_bind,Sem.run_pure,Result.andThen_ok,Array.empty_append]
     rw [hrun];refine hn _ _ _ _ (.refl hsr) (FR.put (hfr.push ?_) hp FC);have:=hvs'.append hcap;simpa using this
    ·cases h
   ·cases h
  ·cases h
 ·split at h
  ·rename_i v σ1 hr;split at h
   ·rename_i fr1 hp;cases h;obtain ⟨v',w',ρ',M',h1,h2,h3⟩:=hval hr hsr hg hev;apply I8 hF hd;rcases h1 with h1 | ⟨h1,rfl⟩
    ·rw [h1];exact hn _ _ _ _ h2 ((hfr.mono h2.g).put hp h3)
    ·rw [h1];exact hn _ _ _ _ h2 ((hfr.mono h2.g).put hp h3)
   ·cases h
  ·cases h
theorem WR {ρ:Ren} {M:Mem} {ms:List Nat} {ops:List Oper} {o:Oper} {fr:Fr} {a:Act} {r:Bool} (h:Ch ops o fr=some r) (hfr:FR ρ M ms fr a):Region.wanted o (yielded ops.toArray a.tmps)=r:=by
 unfold Ch at h;unfold Region.wanted;split at h
 ·rename_i hg;rw [hg];cases h;rfl
 ·rename_i j want hg;rw [hg];split at h
  ·rename_i p hp;split at h
   ·rename_i d hd;split at h
    ·rename_i b hb;cases h;obtain ⟨v',h1,h2⟩:=hfr.tmps _ _ hb;cases h2;have:yielded ops.toArray a.tmps j=some b:=by simp [yielded,hp,hd,h1]
     simp only [this];cases b<;>cases want<;>rfl
    ·rename_i hb;cases h;obtain ⟨v',h1,h2⟩:=hfr.tmps _ _ hb;cases h2;have:yielded ops.toArray a.tmps j=none:=by simp [yielded,hp,hd,h1]
     simp only [this];cases want<;>rfl
    ·cases h
   ·cases h
  ·cases h
theorem YI {F:Fence} {n:Nat} (hF:Wd F) (hval:FJ E) (hbi:FE E) (hcall:Ew E call) {ρ:Ren} {M:Mem} {ms:List Nat} {w:World} {ops:List Oper} {i:Nat} {rest:List Nat} {o:Oper} {fr fr':Fr} {σ σ':St} {a:Act} {Q:Exit->Act->World->Prop}
 (hd:F.round=none\/Ez o=true) (ho:ops[i]? = some o) (h:CR E call ops o fr σ=some (fr',σ')) (hsr:SR E.P ρ M σ w) (hg:GOk E M) (hfr:FR ρ M ms fr a)
 (hn: ∀ ρ' M' a' w',A8 E.P ρ M σ w ρ' M' σ' w'->FR ρ' M' ms fr' a'->wpOpsIn F n E.P ops.toArray Q rest a' w'):wpOpsIn F n E.P ops.toArray Q (i :: rest) a w:=by
 unfold CR at h;have ho':ops.toArray[i]? = some o:=by simpa using ho
 split at h
 ·rename_i hw;simp only [wpOpsIn,ho',WR hw hfr,if_true];exact YF hF hval hbi hcall hd h hsr hg hfr hn
 ·rename_i hw;split at h
  ·rename_i fr1 hp;cases h;simp only [wpOpsIn,ho',WR hw hfr,Bool.false_eq_true,if_false];exact ⟨λf _=>hF.1 f,hn _ _ _ _ (.refl hsr) (hfr.put hp FC)⟩
  ·cases h
 ·cases h
theorem YG {F:Fence} {n:Nat} (hF:Wd F) (hval:FJ E) (hbi:FE E) (hcall:Ew E call) {ms:List Nat} {ops:List Oper} (hd:F.round=none\/ops.all Ez=true) {Q:Exit->Act->World->Prop} {fr':Fr} {σ':St}: ∀ (rest:List Oper) (i:Nat) {ρ:Ren} {M:Mem} {w:World} {fr:Fr} {σ:St} {a:Act},
 ops.drop i=rest->CU E call ops rest fr σ=some (fr',σ')->SR E.P ρ M σ w->GOk E M->FR ρ M ms fr a ->
 (∀ ρ' M' a' w',A8 E.P ρ M σ w ρ' M' σ' w'->FR ρ' M' ms fr' a'->Q .normal a' w')->wpOpsIn F n E.P ops.toArray Q (List.range' i rest.length) a w:=by
 intro rest
 induction rest with
 | nil =>
  intro i ρ M w fr σ a _ h hsr hg hfr hn;cases h;exact hn _ _ _ _ (.refl hsr) hfr
 | cons o rest ih =>
  intro i ρ M w fr σ a hdr h hsr hg hfr hn;unfold CU at h;split at h
  ·rename_i fr1 σ1 h1;have ho:ops[i]? = some o:=by
    have:(ops.drop i)[0]? = some o:=by rw [hdr];rfl
    simpa using this
   have hd':ops.drop (i+1)=rest:=by
    have:(ops.drop i).drop 1=rest:=by rw [hdr];rfl
    rw [List.drop_drop] at this;exact this
   rw [List.length_cons,List.range'_succ];refine YI hF hval hbi hcall (hd.imp id λhc=>List.all_eq_true.1 hc o (List.mem_of_getElem? ho)) ho h1 hsr hg hfr λρ' M' a' w' hs hf=>?_
   exact ih (i+1) hd' h hs.sr (hg.mono hs.g.mem) hf λρ'' M'' a'' w'' hs' hf'=>hn _ _ _ _ (hs.trans hs') hf'
  ·cases h
def Qz (E:Env) (draw:List Oper->Fr->St->Option (Fr×St)):Prop:=∀ {F:Fence} {n:Nat} {ρ:Ren} {M:Mem} {ms:List Nat} {w:World} {ops:List Oper} {fr fr':Fr} {σ σ':St} {a:Act} {Q:Exit->Act->World->Prop},Wd F->(F.round=none\/ops.all Ez=true)->Kw E ops=true->draw ops fr σ=some (fr',σ')->SR E.P ρ M σ w->GOk E M->FR ρ M ms fr a ->
 (∀ ρ' M' a' w',A8 E.P ρ M σ w ρ' M' σ' w'->FR ρ' M' ms fr' a'->Q .normal a' w')->∀ t,wpOpsIn F n E.P ops.toArray Q (Region.schedule (E.P.follows .mixedOrders) ops.toArray t) a w
def AEx.out:AEx->Exit
 | .norm=>.normal
 | .exit id=>.exit id
 | .ret=>.ret
def JA (E:Env) (c:Code) (f:Run):Prop:=∀ {F:Fence} {n:Nat} {ρ:Ren} {M:Mem} {B:Nat} {ms:List Nat} {w:World} {fr fr':Fr} {σ σ':St} {a:Act} {x:AEx} {Q:Exit->Act->World->Prop},Wd F->(F.round=none\/CE c=true)->f fr σ=some (x,fr',σ')->SR E.P ρ M σ w->GOk E M ->
 Dv B ρ M w ms->B<=w.heap.size->FR ρ M ms fr a ->
 (∀ ρ' M' a' w' ms',A8 E.P ρ M σ w ρ' M' σ' w'->Dv B ρ' M' w' ms'->(CE c=true->ms'=ms)->FR ρ' M' ms' fr' a'->Q x.out a' w')->c.wpIn F n E.P Q a w
theorem mV {F:Fence} {m:Nat} (hF:Wd F) {c:Code} {f:Run} (hc:JA E c f) (hd:F.round=none\/CE c=true): ∀ (n:Nat) {ρ:Ren} {M:Mem} {B:Nat} {ms:List Nat} {w:World} {fr fr':Fr} {σ σ':St} {a:Act} {x:AEx} {Q:Exit->Act->World->Prop},GR f n fr σ=some (x,fr',σ')->SR E.P ρ M σ w->GOk E M ->
 Dv B ρ M w ms->B<=w.heap.size->FR ρ M ms fr a ->
 (∀ ρ' M' a' w' ms',A8 E.P ρ M σ w ρ' M' σ' w'->Dv B ρ' M' w' ms'->(CE c=true->ms'=ms)->FR ρ' M' ms' fr' a'->Q x.out a' w')->∀ (b:Frame) (k:List Item) (cs:List Frame),b.roundOf=F.round ->
 ∃ e a' w',Q e a' w'/\ArrivesIn (Machine.fenced E.P F) E.P (lone (b.atR a (.code c :: .inLoop c :: k)) cs w) b k cs e a' w':=by
 intro n
 induction n with
 | zero=>intro ρ M B ms w fr fr' σ σ' a x Q h;cases h
 | succ n ih =>
  intro ρ M B ms w fr fr' σ σ' a x Q h hsr hg hm hB hfr hn b k cs hro;unfold GR at h;split at h
  ·rename_i fr1 σ1 h1;obtain ⟨e,a1,w1,hq,harr⟩:=hc (n:=m) (Q:=λe a1 w1=>e=.normal/\∃ ρ1 M1 ms1,A8 E.P ρ M σ w ρ1 M1 σ1 w1/\Dv B ρ1 M1 w1 ms1/\(CE c=true->ms1=ms)/\FR ρ1 M1 ms1 fr1 a1) hF hd h1 hsr hg hm hB hfr (λρ' M' a' w' ms' hs h2 h3 hf=>⟨rfl,ρ',M',ms',hs,h2,h3,hf⟩) b (.inLoop c :: k) cs hro (hF.1 _) (hF.room _);obtain ⟨rfl,ρ1,M1,ms1,hs,h2,h3,hf⟩:=hq;obtain ⟨e2,a2,w2,hq2,harr2⟩:=ih h hs.sr (hg.mono hs.g.mem) h2 (Nat.le_trans hB hs.size) hf (λρ'' M'' a'' w'' ms'' hs' h4 h5 hf'=>hn _ _ _ _ _ (hs.trans hs') h4 (λhc=>(h5 hc).trans (h3 hc)) hf') b k cs hro;exact ⟨e2,a2,w2,hq2,.of_steps (StepsIn.trans harr (.one (hF.fenced _ _) stepR_inLoop)) harr2⟩
  ·rename_i hne;obtain ⟨e,a1,w1,hq,harr⟩:=hc (n:=m) (Q:=λe a1 w1=>e=x.out/\Q e a1 w1) hF hd h hsr hg hm hB hfr (λρ' M' a' w' ms' hs h2 h3 hf=>⟨rfl,hn _ _ _ _ _ hs h2 h3 hf⟩) b (.inLoop c :: k) cs hro (hF.1 _) (hF.room _);obtain ⟨rfl,hq⟩:=hq;refine ⟨_,a1,w1,hq,.pass (x:=.inLoop c) rfl (λ_ _=>.inl ?_) harr⟩;cases x with
   | norm=>exact absurd h (hne _ _)
   | exit id=>simp [AEx.out]
   | ret=>simp [AEx.out]
end
def LQ (_:Program) (_:FuncId):Prop:=False
section
variable {E:Env} {ρ:Ren} {M:Mem} {σ:St} {w:World}
theorem ZQ {p v:V} {p':Value} (h:JL σ p=some v) (hsr:SR E.P ρ M σ w) (hp:VR ρ M p p'): ∃ a v',p'=.pointer (some a)/\w.cell? a=some v'/\VR ρ M v v':=by
 unfold JL at h;split at h
 ·rename_i b ver off;split at h
  ·rename_i cs ty ver' fz hb;split at h
   ·rename_i hver;have hver:=Nat.eq_of_beq_eq_true hver;obtain ⟨e,he,⟨h1,_⟩ | ⟨h1,rfl⟩⟩:=hp.ptr_inv
    ·exact absurd (CV hsr he hb).1 (by omega)
    ·obtain ⟨_,_,_,cs',fr,hh,hsz,hle,hv,_⟩:=CV hsr he hb;have hr:=(GD hh e.s).take cs.length;obtain ⟨v',h2,h3⟩:=hv.get h;exact ⟨_,v',rfl,hr off v' h2,h3⟩
   ·cases h
  ·cases h
 ·cases h
theorem uN {ρ':Ren} {M':Mem} {σ':St} {w':World} (hsr:SR E.P ρ M σ w) (s:A8 E.P ρ M σ w ρ' M' σ' w') {x:Nat} (o:Obj) (hx:w.heap.size<=x) (h1: ∀ b e,ρ' b=some e->e.x≠x) (h2:M' x=none):A8 E.P ρ M σ w ρ' M' σ' (w'.putObj x o):=by
 have hh: ∀ y,y≠x->(w'.putObj x o).heap[y]? = w'.heap[y]? := λy hy=>World.putObj_heap_other hy
 exact ⟨⟨λb e he=>(s.sr.fits b e he).mono (.refl _ _) (hh _ (h1 b e he)),s.sr.bd,s.sr.inj,λy o' hm=>(hh y (λe=>by subst e;rw [h2] at hm;cases hm)).trans (s.sr.mem y o' hm),s.sr.disj⟩,s.g,
  λy hy hn=>(hh y (by omega)).trans (s.frame y hy hn),by rw [World.putObj_size];exact s.size,s.fresh,s.old,s.freshM,s.os,s.tape,s.output,s.n,s.tch,s.keep,s.none,λb e he hb=>by
   obtain ⟨q1,q2⟩:=s.held b e he hb;exact ⟨q1,(hh _ (by have:=hsr.lt he;omega)).trans q2⟩⟩
structure Xv (ρ:Ren) (M:Mem) (w:World) (x:Nat) (o:Obj):Prop where
 at_:w.heap[x]? = some o
 ren: ∀ b e,ρ b=some e->e.x≠x
 mem:M x=none
theorem Dv.aside {B:Nat} {ms:List Nat} (h:Dv B ρ M w ms) {D:Nat} (hD:D∈ms):Xv ρ M w D (.deferred (some [])):=let ⟨_,h2,h3,h4⟩:=h.at_ D hD;⟨h2,h3,h4⟩
theorem qM {ga gb:Run} {assign body:Code} (_:JA E assign ga) (_:JA E body gb) (_:CE assign=true) (_:CE body=true) {F:Fence} {n:Nat} (_:Wd F) (_:F.round=none)
 {B:Nat} {ms:List Nat} {fr fr':Fr} {σ':St} {a:Act} {x:AEx} {Q:Exit->Act->World->Prop} {g:Operand} {ps:Array Tmp} {f:FuncId} (hf:E.back f=true->LQ E.P f) {gp:V} (_:fr.ev g=some (.fn f [gp]))
 (h:IJ E true ga gb (some (.fn f [gp])) ps.toList fr σ=some (x,fr',σ')) (_:SR E.P ρ M σ w) (_:GOk E M) (_:Dv B ρ M w ms) (_:B<=w.heap.size) (_:FR ρ M ms fr a)
 (_: ∀ ρ' M' a' w' ms',A8 E.P ρ M σ w ρ' M' σ' w'->Dv B ρ' M' w' ms'->FR ρ' M' ms' fr' a'->Q x.out a' w'):(Code.rangeFunc g ps assign body).wpIn F n E.P Q a w:=by
 unfold IJ at h;simp only [Bool.and_true] at h;split at h
 ·rename_i hback;exact (hf hback).elim
 ·cases h
end
section
variable {E:Env} {call:SS.Call}
theorem Q6 (hback: ∀ f,E.back f=true->LQ E.P f) (hval:FJ E) (hbi:FE E) (hcall:Ew E call) {draw:List Oper->Fr->St->Option (Fr×St)} (hdraw:Qz E draw) (m:Nat): ∀ (c:Code),EF E c=true->JA E c (BL E call draw m c):=by
 intro c
 induction c with
 | skip =>
  intro _ F n ρ M B ms w fr fr' σ σ' a x Q hF hd h hsr hg hm hB hfr hn;unfold BL at h;cases h;exact wpIn_skip (hn _ _ _ _ _ (.refl hsr) hm (λ_=>rfl) hfr)
 | label l =>
  intro _ F n ρ M B ms w fr fr' σ σ' a x Q hF hd h hsr hg hm hB hfr hn;unfold BL at h;cases h;exact wpIn_label (hn _ _ _ _ _ (.refl hsr) hm (λ_=>rfl) hfr)
 | region id ops d =>
  intro hok F n ρ M B ms w fr fr' σ σ' a x Q hF hd h hsr hg hm hB hfr hn;unfold BL at h;split at h
  ·rename_i fr1 σ1 h1;cases h;cases d with
   | false =>
    simp only [Bool.false_eq_true,if_false] at h1;apply wpIn_region;have:=YG (n:=n) (Q:=Q) hF hval hbi hcall hd ops.toList 0 rfl h1 hsr hg hfr (λρ' M' a' w' s hf=>hn _ _ _ _ _ s (hm.step s) (λ_=>rfl) hf);simpa [List.range_eq_range'] using this
   | true =>
    simp only [if_true] at h1;apply wpIn_region_draw;intro t;have hs0:A8 E.P ρ M σ w ρ M σ { w with drawn:=w.drawn+1 }:=uM hsr rfl rfl rfl rfl;have:=hdraw (n:=n) (Q:=Q) hF hd (by simpa [EF] using hok) h1 hs0.sr hg hfr (λρ' M' a' w' hs hf=>hn _ _ _ _ _ (hs0.trans hs) (hm.step (hs0.trans hs)) (λ_=>rfl) hf) t;simpa using this
  ·cases h
 | seq c1 c2 ih1 ih2 =>
  intro hok;simp only [EF,Bool.and_eq_true] at hok
  replace ih1:=@ih1 hok.1
  replace ih2:=@ih2 hok.2
  intro F n ρ M B ms w fr fr' σ σ' a x Q hF hd h hsr hg hm hB hfr hn;have hd1:F.round=none\/CE c1=true:=hd.imp id λh=>by simp only [CE,Bool.and_eq_true] at h;exact h.1
  have hd2:F.round=none\/CE c2=true:=hd.imp id λh=>by simp only [CE,Bool.and_eq_true] at h;exact h.2
  unfold BL at h;apply wpIn_seq;split at h
  ·rename_i fr1 σ1 h1;exact ih1 hF hd1 h1 hsr hg hm hB hfr λρ' M' a' w' ms' hs q1 q2 hf=>ih2 hF hd2 h hs.sr (hg.mono hs.g.mem) q1 (Nat.le_trans hB hs.size) hf λρ'' M'' a'' w'' ms'' hs' q3 q4 hf'=>hn _ _ _ _ _ (hs.trans hs') q3 (λhc=>by
    simp only [CE,Bool.and_eq_true] at hc;exact (q4 hc.2).trans (q2 hc.1)) hf'
  ·rename_i hne;refine ih1 hF hd1 h hsr hg hm hB hfr λρ' M' a' w' ms' hs q1 q2 hf=>?_
   have q2':CE (c1.seq c2)=true->ms'=ms:=λhc=>by
    simp only [CE,Bool.and_eq_true] at hc;exact q2 hc.1
   cases x with
   | norm=>exact absurd h (hne _ _)
   | exit id=>exact hn _ _ _ _ _ hs q1 q2' hf
   | ret=>exact hn _ _ _ _ _ hs q1 q2' hf
 | cond c c1 c2 ih1 ih2 =>
  intro hok;simp only [EF,Bool.and_eq_true] at hok
  replace ih1:=@ih1 hok.1
  replace ih2:=@ih2 hok.2
  intro F n ρ M B ms w fr fr' σ σ' a x Q hF hd h hsr hg hm hB hfr hn;have hd1:F.round=none\/CE c1=true:=hd.imp id λh=>by simp only [CE,Bool.and_eq_true] at h;exact h.1
  have hd2:F.round=none\/CE c2=true:=hd.imp id λh=>by simp only [CE,Bool.and_eq_true] at h;exact h.2
  unfold BL at h;split at h
  ·rename_i hc;have:=hfr.ev hc;generalize hv:a.eval c=v at this;cases this;exact wpIn_cond_true hv (ih1 hF hd1 h hsr hg hm hB hfr λρ' M' a' w' ms' hs q1 q2 hf=>hn _ _ _ _ _ hs q1 (λhc=>q2 (by simp only [CE,Bool.and_eq_true] at hc;exact hc.1)) hf)
  ·rename_i hc;have:=hfr.ev hc;generalize hv:a.eval c=v at this;cases this;exact wpIn_cond_false hv (ih2 hF hd2 h hsr hg hm hB hfr λρ' M' a' w' ms' hs q1 q2 hf=>hn _ _ _ _ _ hs q1 (λhc=>q2 (by simp only [CE,Bool.and_eq_true] at hc;exact hc.2)) hf)
  ·cases h
 | block id c ih =>
  intro hok;simp only [EF] at hok
  replace ih:=@ih hok
  intro F n ρ M B ms w fr fr' σ σ' a x Q hF hd h hsr hg hm hB hfr hn;have hd1:F.round=none\/CE c=true:=hd;unfold BL at h;apply wpIn_block;split at h
  ·rename_i i fr1 σ1 h1;split at h
   ·rename_i hi;cases h;have hi:=Nat.eq_of_beq_eq_true hi;refine ih hF hd1 h1 hsr hg hm hB hfr λρ' M' a' w' ms' hs q1 q2 hf=>?_
    simp only [AEx.out,Exit.inBlock,hi,if_true];exact hn _ _ _ _ _ hs q1 q2 hf
   ·rename_i hi;cases h;refine ih hF hd1 h1 hsr hg hm hB hfr λρ' M' a' w' ms' hs q1 q2 hf=>?_
    simp only [AEx.out,Exit.inBlock];rw [if_neg (λhe=>hi (by rw [he];exact Nat.beq_refl _))];exact hn _ _ _ _ _ hs q1 q2 hf
  ·rename_i hne;refine ih hF hd1 h hsr hg hm hB hfr λρ' M' a' w' ms' hs q1 q2 hf=>?_
   cases x with
   | norm=>exact hn _ _ _ _ _ hs q1 q2 hf
   | exit id=>exact absurd h (hne _ _ _)
   | ret=>exact hn _ _ _ _ _ hs q1 q2 hf
 | loop c ih =>
  intro hok;simp only [EF] at hok
  replace ih:=@ih hok
  intro F n ρ M B ms w fr fr' σ σ' a x Q hF hd h hsr hg hm hB hfr hn;unfold BL at h;intro b k cs hro _ _;obtain ⟨e,a',w',hq,harr⟩:=mV (m:=n) hF ih hd m h hsr hg hm hB hfr hn b k cs hro;exact ⟨e,a',w',hq,.of_steps (.one (hF.fenced _ _) stepR_loop) harr⟩
 | exit id =>
  intro _ F n ρ M B ms w fr fr' σ σ' a x Q hF hd h hsr hg hm hB hfr hn;unfold BL at h;cases h;exact wpIn_exit (hn _ _ _ _ _ (.refl hsr) hm (λ_=>rfl) hfr)
 | ret =>
  intro _ F n ρ M B ms w fr fr' σ σ' a x Q hF hd h hsr hg hm hB hfr hn;unfold BL at h;cases h;exact wpIn_ret (hn _ _ _ _ _ (.refl hsr) hm (λ_=>rfl) hfr)
 | rangeFunc g ps c1 c2 ih1 ih2 =>
  intro hok;simp only [EF,Bool.and_eq_true] at hok
  replace ih1:=@ih1 hok.1
  replace ih2:=@ih2 hok.2
  intro F n ρ M B ms w fr fr' σ σ' a x Q hF hd h hsr hg hm hB hfr hn;have hro:F.round=none:=hd.resolve_right (by simp [CE]);unfold BL at h;cases hcalm:(CE c1&&CE c2) with
  | false =>
   rw [hcalm] at h;unfold IJ at h;split at h
   ·simp at h
   ·cases h
  | true =>
   rw [hcalm] at h;simp only [Bool.and_eq_true] at hcalm;cases hgv:fr.ev g with
   | none=>rw [hgv] at h;cases h
   | some v =>
    rw [hgv] at h;have h0:=h;unfold IJ at h;split at h
    ·rename_i f p hv;cases hv;exact qM ih1 ih2 hcalm.1 hcalm.2 hF hro (hback f) hgv h0 hsr hg hm hB hfr λρ' M' a' w' ms' s q1 hf=>hn _ _ _ _ _ s q1 (λhc=>by simp [CE] at hc) hf
    ·cases h
 | _ =>
  intro _ F n ρ M B ms w fr fr' σ σ' a x Q _ _ h;unfold BL at h;cases h
end
def eOp (E:Env) (call:SS.Call) (ev:Operand->Option V) (o:Oper) (σ:St):Option (V×St) :=
 match o.op with
 | .call c=>match evs ev c.args.toList with
  | some vs=>match c.callee with
   | .builtin b=>DC E b c.argTypes.toList vs σ
   | .value f=>match ev f with
    | some (.fn g cap)=>call g (vs++cap) σ
    | _=>none
   | .invoke ..=>none
  | none=>none
 | .defer _=>none
 | op=>Aq E ev op σ
theorem Ou {ev ev':Operand->Option V}: ∀ {l:List Operand},(∀ x∈l,ev x=ev' x)->evs ev l=evs ev' l
 | [],_=>rfl
 | x :: l,h=>by
  unfold evs;rw [h x (by simp),Ou (l:=l) λy hy=>h y (by simp [hy])]
theorem Ot {ev ev':Operand->Option V}: ∀ {l:List (Nat×Operand)},(∀ x∈l,ev x.2=ev' x.2)->D5 ev l=D5 ev' l
 | [],_=>rfl
 | (i,x) :: l,h=>by
  unfold D5;rw [h (i,x) (by simp),Ot (l:=l) λy hy=>h y (by simp [hy])]
theorem Ma {ev ev':Operand->Option V} {x:Option Operand} (h: ∀ y,x=some y->ev y=ev' y):Ct ev x=Ct ev' x:=by
 cases x with
 | none=>rfl
 | some x=>unfold Ct;simp only;rw [h x rfl]
section
variable {E:Env} {call:SS.Call}
theorem KH {ev ev':Operand->Option V} {op:Op} {σ:St} (h: ∀ x∈op.operands,ev x=ev' x):Aq E ev op σ=Aq E ev' op σ:=by
 cases op<;>simp only [Op.operands] at h<;>try rfl
 all_goals unfold Aq;simp only
 case build t ps=>rw [Ot λx hx=>h x.2 (by simp;exact ⟨x.1,by simpa using hx⟩)]
 case buildSlice t n ps=>rw [Ot λx hx=>h x.2 (by simp;exact ⟨x.1,by simpa using hx⟩)]
 case makeFunc f first cap=>rw [Ou λx hx=>h x (by simp at hx ⊢;exact .inr hx)]
 case makeMap t r=>rw [Ma λy hy=>h y (by simp [hy])]
 case slice t x lo hi mx =>
  rw [h x (by simp),Ma (x:=lo) λy hy=>h y (by simp [hy]),Ma (x:=hi) λy hy=>h y (by simp [hy]),Ma (x:=mx) λy hy=>h y (by simp [hy])]
 all_goals (first | (simp_all;done))
theorem aA {ev ev':Operand->Option V} {o:Oper} {σ:St} (h: ∀ x∈o.op.operands,ev x=ev' x):eOp E call ev o σ=eOp E call ev' o σ:=by
 unfold eOp
 split
 ·rename_i c hc;rw [hc] at h;simp only [Op.operands] at h;rw [Ou (l:=c.args.toList) λx hx=>h x (by simp [Call.operands];exact .inr (by simpa using hx))]
  split
  ·split
   ·rfl
   ·rename_i f hf;rw [h f (by simp [Call.operands,hf])]
   ·rfl
  ·rfl
 ·rfl
 ·exact KH h
theorem YE {o:Oper} {fr fr':Fr} {σ σ':St} (hd: ∀ c,o.op≠.defer c) (h:Fl E call o fr σ=some (fr',σ')): ∃ v,eOp E call fr.ev o σ=some (v,σ')/\fr.put o.dst v=some fr':=by
 unfold Fl at h;unfold eOp;split at h
 ·rename_i c ho;simp only [ho];split at h
  ·rename_i vs hvs;simp only [hvs];dsimp only at h;split at h
   ·rename_i v σ1 hr;split at h
    ·rename_i fr1 hp;cases h;exact ⟨v,hr,hp⟩
    ·cases h
   ·cases h
  ·cases h
 ·rename_i c ho;exact absurd ho (hd c)
 ·rename_i h1 h2;split at h
  ·rename_i v σ1 hr;split at h
   ·rename_i fr1 hp;cases h;refine ⟨v,?_,hp⟩
    split
    ·rename_i c ho;exact absurd ho (h1 c)
    ·rename_i c ho;exact absurd ho (h2 c)
    ·exact hr
   ·cases h
  ·cases h
theorem Ln {F:Fence} {n:Nat} (hF:Wd F) (hval:FJ E) (hbi:FE E) (hcall:Ew E call) {ρ:Ren} {M:Mem} {w:World} {o:Oper} {ev:Operand->Option V} {v:V} {σ σ':St} {a:Act} {next:Act->World->Prop} {Q:Exit->Act->World->Prop}
 (hd:F.round=none\/Ez o=true) (h:eOp E call ev o σ=some (v,σ')) (hsr:SR E.P ρ M σ w) (hg:GOk E M) (hev:EV ρ M ev a.eval)
 (hn: ∀ ρ' M' v' w',A8 E.P ρ M σ w ρ' M' σ' w'->VR ρ' M' v v'->next (a.put o.dst v') w'):o.wpIn F n E.P a w next Q:=by
 unfold eOp at h;split at h
 ·rename_i c ho;split at h
  ·rename_i vs hvs;have hvs':=KR hev hvs;apply I8 hF hd;split at h
   ·rename_i b hc;obtain ⟨v',w',ρ',M',h1,h2,h3⟩:=hbi (ty:=o.type) (cb:=(c.args.map λ| .const _=>true | _=>false)) h hsr hg hvs';have hrun:(execOp a.eval o).run E.P w=.ok (.value v') w':=by
     simp only [execOp,ho,resolve,hc,Sem.run_bind,Sem.run_pure,Result.andThen_ok,invoke];rw [<-h1];congr 2;apply Array.ext';simp
    rw [hrun];exact hn _ _ _ _ h2 h3
   ·rename_i f hc;split at h
    ·rename_i g cap hf;obtain ⟨cap',hx,hcap⟩:=Lx (hev _ _ hf);have hrun:(execOp a.eval o).run E.P w=(callFunc g (c.args.map a.eval++cap')).run E.P w:=by
      simp only [execOp,ho,resolve,hc,hx,Deferred.ofValue,Sem.run_bind,Sem.run_pure,Result.andThen_ok,invoke,Array.empty_append]
     have hargs:(c.args.map a.eval++cap')=(c.args.toList.map a.eval++cap'.toList).toArray:=by apply Array.ext';simp
     rw [hrun,hargs];rcases hcall h hsr hg (hvs'.append hcap) with ⟨v',w',h1,ρ',M',h2,h3⟩ | ⟨h1,h2⟩
     ·rw [h1];exact hn _ _ _ _ h2 h3
     ·rw [h1];refine ⟨hF.dep,CallsIn.mono (hF.calls h2) λe w' he=>?_⟩;cases e with
      | returned v' =>
       obtain ⟨ρ',M',h2,h3⟩:=he;exact hn _ _ _ _ h2 h3
      | panicked _=>exact he.elim
      | outgrown=>exact he.elim
    ·cases h
   ·cases h
  ·cases h
 ·cases h
 ·obtain ⟨v',w',ρ',M',h1,h2,h3⟩:=hval h hsr hg hev;apply I8 hF hd;rcases h1 with h1 | ⟨h1,rfl⟩
  ·rw [h1];exact hn _ _ _ _ h2 h3
  ·rw [h1];exact hn _ _ _ _ h2 h3
theorem CX {σ σ':St} {r:Option V} {v:V} (h:keep σ r=some (v,σ')):r=some v/\σ'=σ:=by
 unfold keep at h;split at h
 ·cases h;exact ⟨rfl,rfl⟩
 ·cases h
theorem Jb {σ σ':St} {r:Option V} {v:V} (h:keep σ r=some (v,σ')) (τ:St):keep τ r=some (v,τ):=by
 rw [(CX h).1];rfl
theorem YJ {op:Op} {o:Oper} (ho:o.op=op) {ev:Operand->Option V} {v:V} {σ σ':St} (hk:Am E o=0) (hc: ∀ c,op≠.call c) (h:Aq E ev op σ=some (v,σ')) (τ:St):Aq E ev op τ=some (v,τ):=by
 cases op<;>simp only [Am,ho] at hk<;>try (exact absurd hk (by decide))
 case call c=>exact absurd rfl (hc c)
 case alloc=>split at hk<;>cases hk
 case makeSlice=>split at hk<;>cases hk
 case box=>split at hk<;>cases hk
 case convert=>split at hk<;>cases hk
 case makeMap t r=>cases r with
  | none=>simp only at hk;split at hk<;>cases hk
  | some r=>cases hk
 case binOp op t x y c =>
  simp only [Aq] at h ⊢;split at h
  ·rename_i a b ha hb;have hn: ∀ u,E.P.underlying t≠some (.pointer u):=by
    intro u hu;rw [hu] at hk;cases hk
   have hb:CW E op t x y a b τ=CW E op t x y a b σ:=by
    unfold CW
    split<;>try rfl
    unfold ET
    split<;>try rfl
    have:eqV E t a b τ=eqV E t a b σ:=by
     unfold eqV
     split<;>first | rfl | exact absurd (by assumption) (hn _)
    rw [this]
   rw [hb];exact Jb h τ
  ·cases h
 case buildSlice t n ps =>
  have hw:E.wlit t=false:=by
   cases hw:E.wlit t with
   | false=>rfl
   | true=>rw [hw] at hk;cases hk
  simp only [Aq] at h ⊢;split at h
  ·rename_i l hl;unfold Cq at h ⊢;simp only [hw] at h ⊢
   repeat' split at h
   all_goals (first | (cases h;done) | (simp_all;done))
  ·cases h
 all_goals
  simp only [Aq] at h ⊢
  first
   | exact Jb h τ
   | ((repeat' split at h)<;>first | (cases h;done) | (obtain ⟨h1,_⟩:=CX h;simp [*,keep];done) | (simp_all;done))
theorem lH {o:Oper} {ev:Operand->Option V} {v:V} {σ σ':St} (hk:Am E o=0) (h:eOp E call ev o σ=some (v,σ')) (τ:St):eOp E call ev o τ=some (v,τ):=by
 unfold eOp at h ⊢;split at h
 ·rename_i c ho
  have hk':(match c.callee with
   | .builtin .len | .builtin .cap=>1
   | .builtin .min | .builtin .max=>0
   | _=>2)=0:=by have hk0:=hk;simp only [Am,ho] at hk0;exact hk0
  split at h
  ·rename_i vs hvs;split at h
   ·rename_i b hb;rw [hb] at hk';have hb':b=.min\/b=.max:=by cases b<;>simp_all
    rcases hb' with rfl | rfl
    ·unfold DC at h ⊢;split at h<;>simp_all
     all_goals exact Jb h τ
    ·unfold DC at h ⊢;split at h<;>simp_all
     all_goals exact Jb h τ
   ·rename_i f hf;rw [hf] at hk';cases hk'
   ·cases h
  ·cases h
 ·cases h
 ·rename_i op hc hd;exact YJ rfl hk hc h τ
theorem lI {o:Oper} {fr:Fr} {v:V} {σ:St} (hk:Am E o=1) (h:Gf E o fr σ=some v):eOp E call fr.ev o σ=some (v,σ):=by
 unfold Gf at h;unfold eOp;split at h
 ·rename_i c ho
  have hk':(match c.callee with
   | .builtin .len | .builtin .cap=>1
   | .builtin .min | .builtin .max=>0
   | _=>2)=1:=by have hk0:=hk;simp only [Am,ho] at hk0;exact hk0
  split at h
  ·rename_i b vs hb hvs;rw [hb] at hk';simp only [ho,hvs,hb];split at h
   ·rename_i v1 σ1 h1;cases h;rw [h1];have hb':b=.len\/b=.cap:=by cases b<;>simp_all
    have:σ1=σ:=by
     rcases hb' with rfl | rfl <;>
     ·unfold DC at h1;split at h1<;>first | exact (CX h1).2 | simp_all
    rw [this]
   ·cases h
  ·cases h
 ·rename_i op hc;split at h
  ·rename_i v1 σ1 h1;cases h;have hs:σ1=σ:=by
    cases ho:o.op<;>simp only [Am,ho] at hk<;>try (exact absurd hk (by decide))
    case call c=>exact absurd ho (hc c)
    case alloc=>split at hk<;>cases hk
    case makeSlice=>split at hk<;>cases hk
    case box=>split at hk<;>cases hk
    case move=>split at hk<;>cases hk
    case build=>split at hk<;>cases hk
    case convert s d x =>
     rw [ho] at h1;simp only [Aq] at h1;split at h1
     ·have hns:FB E s d=false:=by
       cases hs:FB E s d with
       | false=>rfl
       | true=>rw [hs] at hk;simp at hk
      rw [hns] at h1;exact (CX h1).2
     ·cases h1
    case makeMap t r=>cases r with
     | none=>simp only at hk;split at hk<;>cases hk
     | some r=>cases hk
    case buildSlice=>split at hk<;>cases hk
    all_goals
     rw [ho] at h1;simp only [Aq] at h1
     repeat' split at h1
     all_goals first | exact (CX h1).2 | (cases h1;done)
   subst hs
   split
   ·rename_i c ho;exact absurd ho (hc c)
   ·rename_i c ho;simp [Am,ho] at hk
   ·exact h1
  ·cases h
end
mutual
theorem V.beq_eq: ∀ (a b:V),V.beq a b=true->a=b
 | .bool _,b,h=>by cases b<;>simp_all [V.beq]
 | .int _ _,b,h=>by
  cases b<;>simp_all [V.beq]
  exact Fw h.1
 | .str _,b,h=>by cases b<;>simp_all [V.beq,JH]
 | .nilS,b,h=>by cases b<;>simp_all [V.beq]
 | .emp,b,h=>by cases b<;>simp_all [V.beq]
 | .lst xs f,b,h=>by
  cases b<;>simp_all [V.beq]
  exact V.zAZ _ _ h.1
 | .ref _ _ _ _ c,b,h=>by
  cases b<;>simp_all [V.beq]
  rename_i c';cases c<;>cases c'<;>simp_all
 | .ptr0,b,h=>by cases b<;>simp_all [V.beq]
 | .map0,b,h=>by cases b<;>simp_all [V.beq]
 | .fn0,b,h=>by cases b<;>simp_all [V.beq]
 | .if0,b,h=>by cases b<;>simp_all [V.beq]
 | .ptr ..,b,h=>by cases b<;>simp_all [V.beq]
 | .map _,b,h=>by cases b<;>simp_all [V.beq]
 | .fn _ c,b,h=>by
  cases b<;>simp_all [V.beq]
  exact V.zAZ _ _ h.2
 | .ifc _ x,b,h=>by
  cases b<;>simp_all [V.beq]
  exact V.beq_eq _ _ h.2
 | .agg x,b,h=>by
  cases b<;>simp_all [V.beq]
  exact V.zAZ _ _ h
 | .tup x,b,h=>by
  cases b<;>simp_all [V.beq]
  exact V.zAZ _ _ h
 | .eptr x _ _,b,h=>by
  cases b<;>simp_all [V.beq]
  exact V.zAZ _ _ h.2
 | .gptr ..,b,h=>by cases b<;>simp_all [V.beq]
 | .opq,b,h=>by cases b<;>simp_all [V.beq]
theorem V.zAZ: ∀ (a b:List V),V.beq.beqs a b=true->a=b
 | [],b,h=>by cases b<;>simp_all [V.beq.beqs]
 | x :: xs,b,h=>by
  cases b with
  | nil=>simp [V.beq.beqs] at h
  | cons y ys =>
   simp only [V.beq.beqs,Bool.and_eq_true] at h;rw [V.beq_eq x y h.1,V.zAZ xs ys h.2]
end
theorem aD {tab:PT Nat} {e:Edge} {i:Nat} (h:(Oj tab e).testBit i=true):i=e.on\/∃ m,tab.get e.on=some m/\m.testBit i=true:=by
 unfold Oj at h;rw [Nat.testBit_or,Bool.or_eq_true] at h;rcases h with h | h
 ·rw [Nat.testBit_two_pow] at h;exact .inl (by simpa using (of_decide_eq_true h).symm)
 ·split at h
  ·rename_i m hm;exact .inr ⟨m,hm,h⟩
  ·simp at h
theorem Pi {tab:PT Nat} {i:Nat}: ∀ {l:List Edge},(He tab l).testBit i=true->∃ e∈l,Region.binds .any e=true/\(i=e.on\/∃ m,tab.get e.on=some m/\m.testBit i=true)
 | [],h=>by simp [He] at h
 | e :: l,h=>by
  unfold He at h;split at h
  ·rename_i hb;rw [Nat.testBit_or,Bool.or_eq_true] at h;rcases h with h | h
   ·exact ⟨e,by simp,hb,aD h⟩
   ·obtain ⟨e',h1,h2⟩:=Pi h;exact ⟨e',by simp [h1],h2⟩
  ·obtain ⟨e',h1,h2⟩:=Pi h;exact ⟨e',by simp [h1],h2⟩
theorem UM {full:Nat->Option Nat}: ∀ (ops:List Oper) (i0:Nat) (tab:PT Nat),(∀ j m,tab.get j=some m->full j=some m)->(∀ k,k<ops.length->(EY ops i0 tab)[k]? = full (i0+k)) ->
 ∀ (k m i:Nat) (o:Oper),(EY ops i0 tab)[k]? = some m->ops[k]? = some o->m.testBit i=true->∃ e∈o.after.toList,Region.binds .any e=true/\(i=e.on\/∃ m',full e.on=some m'/\m'.testBit i=true)
 | [],_,_,_,_,k,m,i,o,hm,_,_=>by simp [EY] at hm
 | o0 :: r,i0,tab,ht,hf,k,m,i,o,hm,ho,hb=>by
  have h0:full i0=some (He tab o0.after.toList):=by
   have:=hf 0 (by simp);simpa [EY] using this.symm
  cases k with
  | zero =>
   simp only [EY,List.getElem?_cons_zero,Option.some.injEq] at hm ho;subst hm;subst ho;obtain ⟨e,h1,h2,h3⟩:=Pi hb;exact ⟨e,h1,h2,h3.imp id λ⟨m',h4,h5⟩=>⟨m',ht _ _ h4,h5⟩⟩
  | succ k =>
   simp only [EY,List.getElem?_cons_succ] at hm ho;refine UM r (i0+1) _ (λj m hj=>?_) (λk hk=>?_) k m i o hm ho hb
   ·rw [PT.get_set] at hj;split at hj
    ·rename_i hji;subst hji;cases hj;exact h0
    ·exact ht _ _ hj
   ·have:=hf (k+1) (by simpa using hk);simp only [EY,List.getElem?_cons_succ] at this;rw [this];congr 1;omega
theorem Kh: ∀ (ops:List Oper) (i0:Nat) (tab:PT Nat),(EY ops i0 tab).length=ops.length
 | [],_,_=>rfl
 | o :: r,i0,tab=>by simp [EY,Kh r]
def bits (ops:List Oper):List Nat:=EY ops 0 .leaf
theorem RY {ops:List Oper} {k m i:Nat} {o:Oper} (hm:(bits ops)[k]? = some m) (ho:ops[k]? = some o) (hb:m.testBit i=true) :
 ∃ e∈o.after.toList,Region.binds .any e=true/\(i=e.on\/∃ m',(bits ops)[e.on]? = some m'/\m'.testBit i=true) :=
 UM (full:=λk=>(bits ops)[k]?) ops 0 .leaf (λj m h=>by rw [PT.get_leaf] at h;cases h) (λk _=>by simp [bits]) k m i o hm ho hb
theorem Ok: ∀ {ops:List Oper} {i0:Nat},Gx ops i0=true->∀ (k:Nat) (o:Oper),ops[k]? = some o->∀ e∈o.after.toList,Region.binds .any e=true->e.on<i0+k
 | [],_,_,k,o,ho,_,_,_=>by simp at ho
 | o0 :: r,i0,h,k,o,ho,e,he,hb=>by
  simp only [Gx,Bool.and_eq_true,List.all_eq_true] at h;cases k with
  | zero =>
   simp at ho;subst ho;have:=h.1 e he;simp only [hb,Bool.not_true,Bool.false_or] at this;simpa using (Nat.blt_eq).mp this
  | succ k =>
   have:=Ok h.2 k o (by simpa using ho) e he hb;omega
theorem N9 {ops:List Oper} (h:Gx ops 0=true): ∀ (k m i:Nat),(bits ops)[k]? = some m->m.testBit i=true->i<k:=by
 intro k
 induction k using Nat.strongRecOn with
 | _ k ih =>
  intro m i hm hb;have hk:k<ops.length:=by
   have:=(List.getElem?_eq_some_iff.1 hm).1
   rwa [bits,Kh] at this
  have ho:ops[k]? = some ops[k]:=by simp [hk]
  obtain ⟨e,h1,h2,h3⟩:=RY hm ho hb;have hlt:=Ok h k _ ho e h1 h2;rw [Nat.zero_add] at hlt;rcases h3 with rfl | ⟨m',h4,h5⟩
  ·exact hlt
  ·have:=ih e.on hlt m' i h4 h5;omega
theorem Du {ops:List Oper} {k:Nat} {o:Oper} {m:Nat}: (Ba ops)[k]? = some (o,m)↔ops[k]? = some o/\(bits ops)[k]? = some m:=by
 unfold Ba bits;rw [List.getElem?_zip_eq_some]
theorem xA (ops:List Oper):(Ba ops).length=ops.length:=by
 unfold Ba;rw [List.length_zip,Kh,Nat.min_self]
theorem IX {E:Env}: ∀ {l:List (Oper×Nat)} {i0 j i m:Nat},(BU E l i0)[j]? = some (i,m)->∃ k o,i=i0+k/\l[k]? = some (o,m)/\Am E o=2
 | [],_,_,_,_,h=>by simp [BU] at h
 | (o,m0) :: r,i0,j,i,m,h=>by
  unfold BU at h;split at h
  ·rename_i hk;cases j with
   | zero=>simp at h;exact ⟨0,o,by omega,by simp [h.2],Nat.eq_of_beq_eq_true hk⟩
   | succ j =>
    obtain ⟨k,o',h1,h2,h3⟩:=IX (by simpa using h);exact ⟨k+1,o',by omega,by simpa using h2,h3⟩
  ·obtain ⟨k,o',h1,h2,h3⟩:=IX h;exact ⟨k+1,o',by omega,by simpa using h2,h3⟩
theorem SV {E:Env} {l:List (Oper×Nat)} {i0 j i m:Nat} (h:(BU E l i0)[j]? = some (i,m)):i0<=i:=by
 obtain ⟨k,_,h1,_⟩:=IX h;omega
theorem Ol {E:Env}: ∀ {l:List (Oper×Nat)} {i0 j j' i m m':Nat},(BU E l i0)[j]? = some (i,m)->(BU E l i0)[j']? = some (i,m')->j=j'
 | [],_,_,_,_,_,_,h,_=>by simp [BU] at h
 | (o,m0) :: r,i0,j,j',i,m,m',h,h'=>by
  unfold BU at h h';split at h
  ·rename_i hk;rw [if_pos hk] at h';cases j with
   | zero =>
    simp at h;cases j' with
    | zero=>rfl
    | succ j' =>
     have h2:(BU E r (i0+1))[j']? = some (i,m'):=by simpa using h'
     have:=SV h2;omega
   | succ j =>
    cases j' with
    | zero =>
     simp at h';have h2:(BU E r (i0+1))[j]? = some (i,m):=by simpa using h
     have:=SV h2;omega
    | succ j' =>
     have h2:(BU E r (i0+1))[j]? = some (i,m):=by simpa using h
     have h3:(BU E r (i0+1))[j']? = some (i,m'):=by simpa using h'
     have:=Ol h2 h3;omega
  ·rename_i hk;rw [if_neg hk] at h';exact Ol h h'
theorem Ti: ∀ {l:List (Nat×Nat)} {j i m i' m':Nat},KX l=true->l[j]? = some (i,m)->l[j+1]? = some (i',m')->m'.testBit i=true
 | [],_,_,_,_,_,_,h,_=>by simp at h
 | [_],j,_,_,_,_,_,_,h=>by simp at h
 | (a,b) :: (c,d) :: r,j,i,m,i',m',h,h1,h2=>by
  simp only [KX,Bool.and_eq_true] at h;cases j with
  | zero=>simp at h1 h2;rw [<-h2.2,<-h1.1];exact h.1
  | succ j=>exact Ti h.2 (by simpa using h1) (by simpa using h2)
theorem T9 {m:Nat}: ∀ {l:List (Nat×Nat)} {j i m':Nat},j<Ck m l->l[j]? = some (i,m')->m.testBit i=true
 | [],_,_,_,h,_=>by simp [Ck] at h
 | (a,b) :: r,j,i,m',h,h1=>by
  unfold Ck at h;split at h
  ·rename_i hb;cases j with
   | zero=>simp at h1;rw [<-h1.1];exact hb
   | succ j =>
    have h2:j<Ck m r:=by omega
    exact T9 h2 (by simpa using h1)
  ·omega
theorem UA {m:Nat}: ∀ (l:List (Nat×Nat)),Ck m l<=l.length
 | []=>Nat.le_refl _
 | (a,b) :: r=>by
  unfold Ck
  split
  ·have:=UA (m:=m) r;simp;omega
  ·simp
theorem UV {k:Nat}: ∀ {l:List (Nat×Nat)},Co k l<l.length->∃ i m,l[Co k l]? = some (i,m)/\m.testBit k=true
 | [],h=>by simp [Co] at h
 | (a,b) :: r,h=>by
  unfold Co at h ⊢
  split
  ·rename_i hb;exact ⟨a,b,by simp,hb⟩
  ·rename_i hb;rw [if_neg hb] at h;obtain ⟨i,m,h1,h2⟩:=UV (k:=k) (l:=r) (by simp at h;omega);exact ⟨i,m,by rw [Nat.add_comm];simpa using h1,h2⟩
theorem Gm: ∀ {ops:List Oper} {i0:Nat} {t wr:PT Nat},Gl ops i0 t=some wr->(∀ d i,t.get d=some i->wr.get d=some i)/\(∀ k o d,ops[k]? = some o->o.dst=some d->wr.get d=some (i0+k)) /\
 (∀ d i,wr.get d=some i->t.get d=some i\/∃ k o,i=i0+k/\ops[k]? = some o/\o.dst=some d)
 | [],_,_,_,h=>by cases h;exact ⟨λ_ _ h=>h,λk o d h=>by simp at h,λ_ _ h=>.inl h⟩
 | o :: r,i0,t,wr,h=>by
  unfold Gl at h;split at h
  ·rename_i hd;obtain ⟨h1,h2,h3⟩:=Gm h;refine ⟨h1,λk o' d ho hd'=>?_,λd i hi=>?_⟩
   ·cases k with
    | zero=>simp at ho;subst ho;rw [hd] at hd';cases hd'
    | succ k=>rw [h2 k o' d (by simpa using ho) hd'];congr 1;omega
   ·rcases h3 d i hi with h4 | ⟨k,o',h4,h5,h6⟩
    ·exact .inl h4
    ·exact .inr ⟨k+1,o',by omega,by simpa using h5,h6⟩
  ·rename_i d0 hd;split at h
   ·cases h
   ·rename_i hn;obtain ⟨h1,h2,h3⟩:=Gm h;refine ⟨λd i hi=>h1 d i ?_,λk o' d ho hd'=>?_,λd i hi=>?_⟩
    ·rw [PT.get_set,if_neg (λhe=>by subst he;rw [hn] at hi;cases hi)];exact hi
    ·cases k with
     | zero=>simp at ho;subst ho;rw [hd] at hd';cases hd';exact h1 _ _ (by rw [PT.get_set,if_pos rfl];rfl)
     | succ k=>rw [h2 k o' d (by simpa using ho) hd'];congr 1;omega
    ·rcases h3 d i hi with h4 | ⟨k,o',h4,h5,h6⟩
     ·rw [PT.get_set] at h4;split at h4
      ·rename_i he;cases h4;exact .inr ⟨0,o,rfl,rfl,by rw [hd,he]⟩
      ·exact .inl h4
     ·exact .inr ⟨k+1,o',by omega,by simpa using h5,h6⟩
theorem U6 {E:Env} {ops:List Oper} {om:List (Oper×Nat)} {wr:PT Nat}: ∀ {l:List (Oper×Nat)} {i0:Nat},Kv E ops om wr l i0=true->∀ {k:Nat} {o:Oper} {m:Nat},l[k]? = some (o,m)->(∀ x∈o.op.operands,Mj E wr om (i0+k) m x=true)/\PE ops wr m o=true
 | [],_,_,k,o,m,hk=>by simp at hk
 | (o0,m0) :: r,i0,h,k,o,m,hk=>by
  simp only [Kv,Bool.and_eq_true,List.all_eq_true] at h;cases k with
  | zero=>simp at hk;obtain ⟨rfl,rfl⟩:=hk;exact ⟨λx hx=>h.1.1 x (by simpa using hx),h.1.2⟩
  | succ k=>rw [show i0+(k+1)=i0+1+k by omega];exact U6 h.2 (by simpa using hk)
theorem U7 {md:Region.Mode} {ops:Array Oper} {T:Array Bool} (hsz:T.size=ops.size) (hr:Region.ready md ops T=[]) {k:Nat} {o:Oper} (ho:ops[k]? = some o) (hall: ∀ e∈o.after,Region.binds md e=true->T.getD e.on false=true):T.getD k false=true:=by
 cases ht:T.getD k false with
 | true=>rfl
 | false =>
  have hlt:k<T.size:=by rw [hsz];exact (Array.getElem?_eq_some_iff.1 ho).1
  have:k∈Region.ready md ops T:=by
   rw [mem_ready];refine ⟨?_,o,ho,hall⟩;simp only [Array.getD_eq_getD_getElem?,Array.getElem?_eq_getElem hlt,Option.getD_some] at ht ⊢;exact ht
  rw [hr] at this;cases this
theorem Pj {md:Region.Mode}: ∀ {l:List Edge} {e:Edge},e∈l->Region.binds md e=true->(E6 md l).testBit e.on=true
 | [],e,h,_=>by simp at h
 | x :: l,e,h,hb=>by
  unfold E6;rcases List.mem_cons.1 h with rfl | h
  ·rw [hb];change (2 ^ e.on |||E6 md l).testBit e.on=true;rw [Nat.testBit_or,Nat.testBit_two_pow];simp
  ·cases Region.binds md x with
   | false=>exact Pj h hb
   | true =>
    change (2 ^ x.on |||E6 md l).testBit e.on=true;rw [Nat.testBit_or,Pj h hb];simp
theorem Py {md:Region.Mode} {ops:Array Oper} {T:Array Bool} (hsz:T.size=ops.size) (hr:Region.ready md ops T=[]): ∀ (l:List Oper) (i s:Nat),(∀ k,l[k]? = ops[i+k]?)->(∀ j,s.testBit j=true->T.getD j false=true)->∀ j,(Hg md l i s).testBit j=true->T.getD j false=true
 | [],_,_,_,hs,j,h=>hs j h
 | o :: l,i,s,hl,hs,j,h=>by
  have hl': ∀ k,l[k]? = ops[i+1+k]? := λk=>by
   have:=hl (k+1);rw [List.getElem?_cons_succ] at this;rw [this];congr 1;omega
  have ho:ops[i]? = some o:=by
   have:=hl 0;rw [Nat.add_zero] at this;rw [<-this];rfl
  unfold Hg at h;cases hb:Nat.beq (Nat.land (E6 md o.after.toList) s) (E6 md o.after.toList) with
  | false=>rw [hb] at h;exact Py hsz hr l (i+1) s hl' hs j h
  | true =>
   rw [hb] at h;have he:E6 md o.after.toList &&&s=E6 md o.after.toList:=Nat.eq_of_beq_eq_true hb;have hi:T.getD i false=true:=U7 hsz hr ho λe hem heb=>by
    have h1:=Pj (l:=o.after.toList) (by simpa using hem) heb;rw [<-he,Nat.testBit_and,Bool.and_eq_true] at h1;exact hs _ h1.2
   refine Py hsz hr l (i+1) (s |||2 ^ i) hl' (λj hj=>?_) j h;rw [Nat.testBit_or,Bool.or_eq_true] at hj;rcases hj with hj | hj
   ·exact hs j hj
   ·rw [Nat.testBit_two_pow] at hj;have:=of_decide_eq_true hj;subst this;exact hi
def Nd (md:Region.Mode) (ops:Array Oper):Prop:=∀ T:Array Bool,T.size=ops.size->Region.ready md ops T=[]->∀ i,i<ops.size->T.getD i false=true
theorem U5 {md:Region.Mode} {ops:List Oper}: ∀ {n:Nat} (s:Nat),Iy md ops (Nat.sub (Nat.pow 2 ops.length) 1) n s=true->∀ T:Array Bool,T.size=ops.toArray.size->Region.ready md ops.toArray T=[]->(∀ j,s.testBit j=true->T.getD j false=true)->∀ i,i<ops.length->T.getD i false=true
 | 0,_,h,_,_,_,_,_,_=>by simp [Iy] at h
 | n+1,s,h,T,hsz,hr,hs,i,hi=>by
  have hp:=Py hsz hr ops 0 s (λk=>by simp) hs;unfold Iy at h;cases hb:Nat.beq (Hg md ops 0 s) (Nat.sub (Nat.pow 2 ops.length) 1) with
  | false=>rw [hb] at h;exact U5 _ h T hsz hr hp i hi
  | true =>
   have he:Hg md ops 0 s=2 ^ ops.length - 1:=Nat.eq_of_beq_eq_true hb;refine hp i ?_;rw [he,Nat.testBit_two_pow_sub_one];simpa using hi
theorem TT {md:Region.Mode} {ops:List Oper} {n:Nat} (h:Iy md ops (Nat.sub (Nat.pow 2 ops.length) 1) n 0=true):Nd md ops.toArray:=λT hsz hr i hi =>
 U5 0 h T hsz hr (λj hj=>by simp at hj) i (by simpa using hi)
theorem cU {ops:List Oper} (h:Gx ops 0=true):Nd .any ops.toArray:=λT hsz hr i=>by
 induction i using Nat.strongRecOn with
 | _ i ih =>
  intro hi;have hi':i<ops.length:=by simpa using hi
  refine U7 (k:=i) (o:=ops[i]) hsz hr (by simp [hi']) λe he hb=>?_
  have:=Ok h i ops[i] (by simp [hi']) e (by simpa using he) hb;exact ih e.on (by omega) (by simp;omega)
theorem Zw {ops:List Oper} (h:QM ops=true):Region.departs ops.toArray=false:=by
 unfold QM at h;rw [List.all_eq_true] at h;unfold Region.departs;rw [Array.any_eq_false'];intro o ho;have h1:=h o (by simpa using ho);rw [List.all_eq_true] at h1;rw [Bool.not_eq_true,Array.any_eq_false'];intro e he;rw [h1 e (by simpa using he)];simp
def hist (d:DS) (e:Nat):Option St:=if e<=d.t then d.past[d.t - e]? else none
inductive GN (E:Env) (call:SS.Call) (ops:List Oper) (effs:List (Nat×Nat)) (fr:Fr) (F:Nat->Option St) (tF i:Nat) (o:Oper) (m:Nat):V->Prop
 | skip:Ch ops o fr=some false->Am E o≠2->GN E call ops effs fr F tF i o m (.tup [])
 | skip2 (e:Nat) (σ:St):Ch ops o fr=some false->Am E o=2->effs[e]? = some (i,m)->F e=some σ->F (e+1)=some σ->GN E call ops effs fr F tF i o m (.tup [])
 | pure (v:V):Ch ops o fr=some true->Am E o=0->(∀ τ,eOp E call fr.ev o τ=some (v,τ))->GN E call ops effs fr F tF i o m v
 | read (v:V):Ch ops o fr=some true->Am E o=1->(∀ e,Ck m effs<=e->e<=Co i effs->e<=tF->∃ σ,F e=some σ/\eOp E call fr.ev o σ=some (v,σ))->GN E call ops effs fr F tF i o m v
 | eff (v:V) (e:Nat) (σ σ':St):Ch ops o fr=some true->Am E o=2->effs[e]? = some (i,m)->F e=some σ->F (e+1)=some σ'->eOp E call fr.ev o σ=some (v,σ')->GN E call ops effs fr F tF i o m v
theorem VL {E:Env} {p:Ex} {lo:Nat}: ∀ {past:List St} {t:Nat},E8 E p lo t past=true->past.length=t+1->∀ e,lo<=e->e<=t->∃ σ,past[t - e]? = some σ/\Df E p σ=true
 | [],t,_,hl,_,_,_=>by simp at hl
 | σ :: r,t,h,hl,e,h1,h2=>by
  unfold E8 at h;split at h
  ·rename_i hb;have:=(Nat.blt_eq).mp hb;omega
  ·simp only [Bool.and_eq_true] at h;by_cases he:e=t
   ·subst he;exact ⟨σ,by simp,h.1⟩
   ·cases t with
    | zero=>omega
    | succ t =>
     obtain ⟨τ,h3,h4⟩:=VL (past:=r) (t:=t) h.2 (by simpa using hl) e h1 (by omega);refine ⟨τ,?_,h4⟩;have:t+1 - e=(t - e)+1:=by omega
     rw [this];simpa using h3
theorem P6 {fr fr':Fr} {dst:Option Nat} {v:V} (h:fr.put dst v=some fr'):fr'.n=fr.n/\fr'.d=fr.d/\(∀ t,dst≠some t->fr'.t.get t=fr.t.get t)/\∀ t,dst=some t->fr'.t.get t=some v/\t<fr'.n:=by
 unfold Fr.put at h;split at h
 ·rename_i d;split at h
  ·rename_i hlt;cases h;refine ⟨rfl,rfl,λt ht=>?_,λt ht=>?_⟩
   ·show (PT.set _ _ _).get t=_;rw [PT.get_set,if_neg (λhe=>ht (by rw [he]))]
   ·cases ht;exact ⟨by show (PT.set _ _ _).get _=_;rw [PT.get_set,if_pos rfl],(Nat.blt_eq).mp hlt⟩
  ·cases h
 ·cases h;exact ⟨rfl,rfl,λ_ _=>rfl,λt ht=>by cases ht⟩
section
variable {E:Env} {call:SS.Call} {ops:List Oper} {effs:List (Nat×Nat)}
theorem nZ {o:Oper} (h:Am E o<4): ∀ c,o.op≠.defer c:=by
 intro c hc;simp [Am,hc] at h
theorem Q7 {o:Oper} {fr fr':Fr} {σ σ':St} (hk:Am E o<4) (h:CR E call ops o fr σ=some (fr',σ')) :
 (Ch ops o fr=some true/\∃ v,eOp E call fr.ev o σ=some (v,σ')/\fr.put o.dst v=some fr')\/(Ch ops o fr=some false/\σ'=σ/\fr.put o.dst (.tup [])=some fr'):=by
 unfold CR at h;split at h
 ·rename_i hw;exact .inl ⟨hw,YE (nZ hk) h⟩
 ·rename_i hw;split at h
  ·rename_i fr1 hp;cases h;exact .inr ⟨hw,rfl,hp⟩
  ·cases h
 ·cases h
theorem Zg {i m:Nat} {o:Oper} {d d1:DS} (h:DE E call ops effs i o m d=some d1) (hl:d.past.length=d.t+1) :
 d1.past.length=d1.t+1/\(∀ e,e<=d.t->hist d1 e=hist d e) /\
 ((Am E o=3/\d1=d) \/
  (Am E o=2/\d1.t=d.t+1/\d1.pend=d.pend/\∃ σ σ',hist d d.t=some σ/\hist d1 (d.t+1)=some σ'/\CR E call ops o d.fr σ=some (d1.fr,σ')/\∀ p∈d.pend,d.t+1<=p.hi->Df E p σ'=true) \/
  (Am E o=1/\d1.t=d.t/\((Ch ops o d.fr=some false/\d1.pend=d.pend/\d.fr.put o.dst (.tup [])=some d1.fr) \/
    (Ch ops o d.fr=some true/\∃ v,d.fr.put o.dst v=some d1.fr/\d1.pend={ o,fr:=d.fr,v,hi:=Co i effs } :: d.pend /\
      ∀ e,Ck m effs<=e->e<=d.t->∃ σ,hist d e=some σ/\Df E { o,fr:=d.fr,v,hi:=Co i effs } σ=true))) \/
  (Am E o=0/\d1.t=d.t/\d1.pend=d.pend/\∃ σ σ',CR E call ops o d.fr σ=some (d1.fr,σ'))):=by
 unfold DE at h;split at h
 ·rename_i hk3;cases h;exact ⟨hl,λ_ _=>rfl,.inl ⟨hk3,rfl⟩⟩
 ·rename_i σ ps hp hk2;split at h
  ·rename_i fr' σ' h1;split at h
   ·rename_i hall;cases h;refine ⟨by simp [<-hp,hl],λe he=>?_,.inr (.inl ⟨hk2,rfl,rfl,σ,σ',?_,?_,h1,λp hpm hh=>?_⟩)⟩
    ·unfold hist;simp only;rw [if_pos (by omega),if_pos he,hp];have:d.t+1 - e=(d.t - e)+1:=by omega
     rw [this,List.getElem?_cons_succ]
    ·unfold hist;rw [if_pos (Nat.le_refl _),hp];simp
    ·unfold hist;simp
    ·have:=List.all_eq_true.1 hall p hpm;rw [Bool.or_eq_true] at this;rcases this with this | this
     ·have:=(Nat.blt_eq).mp this;omega
     ·exact this
   ·cases h
  ·cases h
 ·rename_i σ ps hp hk1;split at h
  ·rename_i hw;split at h
   ·rename_i fr' h1;cases h;exact ⟨hl,λ_ _=>rfl,.inr (.inr (.inl ⟨hk1,rfl,.inl ⟨hw,rfl,h1⟩⟩))⟩
   ·cases h
  ·rename_i hw;split at h
   ·rename_i v h1;split at h
    ·rename_i fr' h2;simp only at h;split at h
     ·rename_i h3;cases h;refine ⟨hl,λ_ _=>rfl,.inr (.inr (.inl ⟨hk1,rfl,.inr ⟨hw,v,h2,rfl,λe h4 h5=>?_⟩⟩))⟩;obtain ⟨τ,h6,h7⟩:=VL h3 (by rw [<-hp];exact hl) e h4 h5;exact ⟨τ,by unfold hist;rw [if_pos h5,hp];exact h6,h7⟩
     ·cases h
    ·cases h
   ·cases h
  ·cases h
 ·rename_i σ ps hp hk0;split at h
  ·rename_i fr' σ' h1;cases h;exact ⟨hl,λ_ _=>rfl,.inr (.inr (.inr ⟨hk0,rfl,rfl,σ,σ',h1⟩))⟩
  ·cases h
 ·cases h
structure Q4 (E:Env) (call:SS.Call) (ops:List Oper) (effs:List (Nat×Nat)) (l:List (Oper×Nat)) (i:Nat) (d dF:DS):Prop where
 len:dF.past.length=dF.t+1
 tt:dF.t=d.t+(BU E l i).length
 hh: ∀ e,e<=d.t->hist dF e=hist d e
 nn:dF.fr.n=d.fr.n
 dd:dF.fr.d=d.fr.d
 same: ∀ t,(∀ (k:Nat) (o:Oper) (m:Nat),l[k]? = some (o,m)->Am E o≠3->o.dst≠some t)->dF.fr.t.get t=d.fr.t.get t
 pend: ∀ p∈d.pend,∀ e,d.t<e->e<=dF.t->e<=p.hi->∃ σ,hist dF e=some σ/\Df E p σ=true
 does: ∀ (k:Nat) (o:Oper) (m:Nat),l[k]? = some (o,m)->Am E o≠3->∃ fr v,GN E call ops effs fr (hist dF) dF.t (i+k) o m v/\(∀ t,o.dst=some t->dF.fr.t.get t=some v/\t<dF.fr.n) /\
  (∀ t,(∀ (k':Nat) (o':Oper) (m':Nat),k<=k'->l[k']? = some (o',m')->Am E o'≠3->o'.dst≠some t)->dF.fr.t.get t=fr.t.get t) /\
  ∀ t,(∀ (k':Nat) (o':Oper) (m':Nat),k'<k->l[k']? = some (o',m')->Am E o'≠3->o'.dst≠some t)->fr.t.get t=d.fr.t.get t
theorem Zf: ∀ (l:List (Oper×Nat)) (i:Nat) (d dF:DS),Ei E call ops effs l i d=some dF->d.past.length=d.t+1->BU E l i=effs.drop d.t ->
 (∀ (k:Nat) (o:Oper) (m:Nat),l[k]? = some (o,m)->Am E o<4) ->
 (∀ (k k':Nat) (o:Oper) (m:Nat) (o':Oper) (m' t:Nat),l[k]? = some (o,m)->l[k']? = some (o',m')->o.dst=some t->o'.dst=some t->k=k')->Q4 E call ops effs l i d dF:=by
 intro l
 induction l with
 | nil =>
  intro i d dF h hl he _ _;cases h;exact ⟨hl,rfl,λ_ _=>rfl,rfl,rfl,λ_ _=>rfl,λ_ _ e h1 h2=>absurd h2 (by omega),λk o m h=>by simp at h⟩
 | cons om r ih =>
  obtain ⟨o,m⟩:=om;intro i d dF h hl he hk hssa;unfold Ei at h;split at h
  ·rename_i d1 h1;have hko:=hk 0 o m rfl;obtain ⟨hl1,hh1,hcase⟩:=Zg h1 hl;have hk': ∀ (k:Nat) (o':Oper) (m':Nat),r[k]? = some (o',m')->Am E o'<4:=λk o' m' hr=>hk (k+1) o' m' (by simpa using hr)
   have hssa': ∀ (k k':Nat) (o:Oper) (m:Nat) (o':Oper) (m' t:Nat),r[k]? = some (o,m)->r[k']? = some (o',m')->o.dst=some t->o'.dst=some t->k=k':=λk k' o m o' m' t h1 h2 h3 h4=>by
    have:=hssa (k+1) (k'+1) o m o' m' t (by simpa using h1) (by simpa using h2) h3 h4;omega
   have hfresh: ∀ t,o.dst=some t->∀ (k:Nat) (o':Oper) (m':Nat),r[k]? = some (o',m')->Am E o'≠3->o'.dst≠some t:=λt ht k o' m' hr _ ht'=>by
    have:=hssa 0 (k+1) o m o' m' t rfl (by simpa using hr) ht ht';omega
   by_cases hk2:Am E o=2
   ·rcases hcase with ⟨hx,_⟩ | ⟨_,ht,hp,σ,σ',hs,hs',hstep,hall⟩ | ⟨hx,_⟩ | ⟨hx,_⟩
    ·omega
    ·have heff:BU E ((o,m) :: r) i=(i,m) :: BU E r (i+1):=by
      show (if Nat.beq (Am E o) 2=true then _ else _)=_;rw [if_pos (by rw [hk2];rfl)]
     rw [heff] at he;have he1:effs[d.t]? = some (i,m):=by
      have:(effs.drop d.t)[0]? = some (i,m):=by rw [<-he];rfl
      simpa using this
     have he2:BU E r (i+1)=effs.drop d1.t:=by
      have:(effs.drop d.t).drop 1=BU E r (i+1):=by rw [<-he];rfl
      rw [List.drop_drop] at this;rw [ht];exact this.symm
     have F:=ih (i+1) d1 dF h hl1 he2 hk' hssa';have hd1: ∃ v,d.fr.put o.dst v=some d1.fr/\GN E call ops effs d.fr (hist dF) dF.t i o m v:=by
      have hF1:hist dF d.t=some σ:=by rw [F.hh d.t (by omega),hh1 d.t (Nat.le_refl _)];exact hs
      have hF2:hist dF (d.t+1)=some σ':=by rw [F.hh (d.t+1) (by omega)];exact hs'
      rcases Q7 hko hstep with ⟨hw,v,h2,h3⟩ | ⟨hw,h2,h3⟩
      ·exact ⟨v,h3,.eff v d.t σ σ' hw hk2 he1 hF1 hF2 h2⟩
      ·subst h2;exact ⟨_,h3,.skip2 d.t _ hw hk2 he1 hF1 hF2⟩
     obtain ⟨v,hput,hdoes⟩:=hd1;obtain ⟨p1,p2,p3,p4⟩:=P6 hput;refine ⟨F.len,?_,λe he=>by rw [F.hh e (by omega)];exact hh1 e he,F.nn.trans p1,F.dd.trans p2,λt ht'=>?_,λp hpm e h2 h3 h4=>?_,λk o' m' hr hk3=>?_⟩
     ·rw [F.tt,ht,heff];simp;omega
     ·rw [F.same t λk o' m' hr=>ht' (k+1) o' m' (by simpa using hr)];exact p3 t (ht' 0 o m rfl (by omega))
     ·by_cases hee:e=d.t+1
      ·subst hee;exact ⟨σ',by rw [F.hh (d.t+1) (by omega)];exact hs',hall p hpm h4⟩
      ·exact F.pend p (by rw [hp];exact hpm) e (by omega) h3 h4
     ·cases k with
      | zero =>
       simp at hr;obtain ⟨rfl,rfl⟩:=hr;refine ⟨d.fr,v,by simpa using hdoes,λt ht'=>?_,λt ht'=>?_,λ_ _=>rfl⟩
       ·rw [F.same t (hfresh t ht'),F.nn];exact p4 t ht'
       ·rw [F.same t λk o' m' hr=>ht' (k+1) o' m' (by omega) (by simpa using hr)];exact p3 t (ht' 0 _ _ (by omega) rfl (by omega))
      | succ k =>
       obtain ⟨fr,u,h2,h3,h4,h5⟩:=F.does k o' m' (by simpa using hr) hk3;refine ⟨fr,u,by rw [show i+(k+1)=i+1+k by omega];exact h2,h3,λt ht'=>h4 t λk' o'' m'' hle hr'=>ht' (k'+1) o'' m'' (by omega) (by simpa using hr'),λt ht'=>(h5 t λk' o'' m'' hle hr'=>ht' (k'+1) o'' m'' (by omega) (by simpa using hr')).trans (p3 t (ht' 0 o m (by omega) rfl (by omega)))⟩
    ·omega
    ·omega
   ·have heff:BU E ((o,m) :: r) i=BU E r (i+1):=by
     show (if Nat.beq (Am E o) 2=true then _ else _)=_;rw [if_neg (λhb=>hk2 (Nat.eq_of_beq_eq_true hb))]
    rw [heff] at he;have ht:d1.t=d.t:=by
     rcases hcase with ⟨_,hx⟩ | ⟨hx,_⟩ | ⟨_,hx,_⟩ | ⟨_,hx,_⟩
     ·rw [hx]
     ·exact absurd hx hk2
     ·exact hx
     ·exact hx
    have F:=ih (i+1) d1 dF h hl1 (by rw [ht];exact he) hk' hssa';have hmain:(Am E o=3/\d1=d)\/(Am E o≠3/\∃ v,d.fr.put o.dst v=some d1.fr/\(∀ p∈d.pend,p∈d1.pend)/\GN E call ops effs d.fr (hist dF) dF.t i o m v):=by
     rcases hcase with ⟨hx,hx'⟩ | ⟨hx,_⟩ | ⟨hx,_,hx'⟩ | ⟨hx,_,hp,σ,σ',hstep⟩
     ·exact .inl ⟨hx,hx'⟩
     ·exact absurd hx hk2
     ·right;refine ⟨by omega,?_⟩;rcases hx' with ⟨hw,hp,hput⟩ | ⟨hw,v,hput,hp,hpast⟩
      ·exact ⟨_,hput,λp hpm=>by rw [hp];exact hpm,.skip hw (by omega)⟩
      ·refine ⟨v,hput,λp hpm=>by rw [hp];exact List.mem_cons_of_mem _ hpm,.read v hw hx λe h2 h3 h4=>?_⟩;have: ∃ σ,hist dF e=some σ/\Df E { o,fr:=d.fr,v,hi:=Co i effs } σ=true:=by
        by_cases hle:e<=d.t
        ·obtain ⟨σ,h5,h6⟩:=hpast e h2 hle;exact ⟨σ,by rw [F.hh e (by omega),hh1 e hle];exact h5,h6⟩
        ·exact F.pend _ (by rw [hp];exact List.mem_cons_self) e (by omega) h4 h3
       obtain ⟨σ,h5,h6⟩:=this;refine ⟨σ,h5,?_⟩;unfold Df at h6;simp only at h6;split at h6
       ·rename_i v' hv';have:=V.beq_eq _ _ h6;subst this;exact lI hx hv'
       ·cases h6
     ·right;refine ⟨by omega,?_⟩;rcases Q7 hko hstep with ⟨hw,v,h2,h3⟩ | ⟨hw,h2,h3⟩
      ·exact ⟨v,h3,λp hpm=>by rw [hp];exact hpm,.pure v hw hx λτ=>lH hx h2 τ⟩
      ·exact ⟨_,h3,λp hpm=>by rw [hp];exact hpm,.skip hw (by omega)⟩
    rcases hmain with ⟨hk3,hdd⟩ | ⟨hk3,v,hput,hpp,hdoes⟩
    ·subst hdd;refine ⟨F.len,by rw [F.tt,heff],λe he=>F.hh e he,F.nn,F.dd,λt ht'=>F.same t λk o' m' hr=>ht' (k+1) o' m' (by simpa using hr),F.pend,λk o' m' hr hk3'=>?_⟩;cases k with
     | zero=>simp at hr;obtain ⟨rfl,rfl⟩:=hr;exact absurd hk3 hk3'
     | succ k =>
      obtain ⟨fr,u,h2,h3,h4,h5⟩:=F.does k o' m' (by simpa using hr) hk3';refine ⟨fr,u,by rw [show i+(k+1)=i+1+k by omega];exact h2,h3,λt ht'=>h4 t λk' o'' m'' hle hr'=>ht' (k'+1) o'' m'' (by omega) (by simpa using hr'),λt ht'=>h5 t λk' o'' m'' hle hr'=>ht' (k'+1) o'' m'' (by omega) (by simpa using hr')⟩
    ·obtain ⟨p1,p2,p3,p4⟩:=P6 hput;refine ⟨F.len,by rw [F.tt,ht,heff],λe he=>by rw [F.hh e (by omega)];exact hh1 e he,F.nn.trans p1,F.dd.trans p2,λt ht'=>?_,λp hpm e h2 h3 h4=>F.pend p (hpp p hpm) e (by omega) h3 h4,λk o' m' hr hk3'=>?_⟩
     ·rw [F.same t λk o' m' hr=>ht' (k+1) o' m' (by simpa using hr)];exact p3 t (ht' 0 o m rfl hk3)
     ·cases k with
      | zero =>
       simp at hr;obtain ⟨rfl,rfl⟩:=hr;refine ⟨d.fr,v,by simpa using hdoes,λt ht'=>?_,λt ht'=>?_,λ_ _=>rfl⟩
       ·rw [F.same t (hfresh t ht'),F.nn];exact p4 t ht'
       ·rw [F.same t λk o' m' hr=>ht' (k+1) o' m' (by omega) (by simpa using hr)];exact p3 t (ht' 0 _ _ (by omega) rfl hk3)
      | succ k =>
       obtain ⟨fr,u,h2,h3,h4,h5⟩:=F.does k o' m' (by simpa using hr) hk3';refine ⟨fr,u,by rw [show i+(k+1)=i+1+k by omega];exact h2,h3,λt ht'=>h4 t λk' o'' m'' hle hr'=>ht' (k'+1) o'' m'' (by omega) (by simpa using hr'),λt ht'=>(h5 t λk' o'' m'' hle hr'=>ht' (k'+1) o'' m'' (by omega) (by simpa using hr')).trans (p3 t (ht' 0 o m (by omega) rfl hk3))⟩
  ·cases h
end
theorem uK {P:Program} {ρ:Ren} {M:Mem} {σ σ1:St} {w:World} (h:SR P ρ M σ w) (hn:σ.n<=σ1.n) (ht:σ1.tch=σ.tch) (hg: ∀ b,b<σ.n->σ1.get b=σ.get b):A8 P ρ M σ w ρ M σ1 w where
 sr:=⟨λb e he=>by rw [hg b (h.bd b e he)];exact h.fits b e he,λb e he=>Nat.lt_of_lt_of_le (h.bd b e he) hn,h.inj,h.mem,h.disj⟩
 g:=.refl _ _
 frame:=λ_ _ _=>rfl
 size:=Nat.le_refl _
 fresh:=λb e h=>.inl ⟨b,e,h,rfl⟩
 old:=λ_ e h _=>⟨e,h⟩
 freshM:=λ_ _ h=>.inl h
 os:=rfl
 tape:=rfl
 output:=rfl
 n:=hn
 tch:=by rw [ht];exact Nat.le_refl _
 keep:=λb hb _=>hg b hb
 none:=λb hb _=>hg b hb
 held:=λ_ _ h _=>⟨h,rfl⟩
theorem Vq {P:Program} {ρ₀ ρ:Ren} {M₀ M:Mem} {σ₀ σ:St} {w₀ w w':World} (s:A8 P ρ₀ M₀ σ₀ w₀ ρ M σ w) {b:Nat} {e:Ent} {o':Obj} {obj:AO} (h0:σ₀.n<=b) (hb:b<σ.n) (hn:ρ b=none) (ho:σ.get b=some obj)
 (hw:w'.heap=w.heap.push o') (hos:w'.os=w.os) (htp:w'.tape=w.tape) (hout:w'.output=w.output) (hex:e.x=w.heap.size) (hf:CT ρ M (ρ.upd b e) M->Ff P (ρ.upd b e) M w' e (some obj)) :
 A8 P ρ₀ M₀ σ₀ w₀ (ρ.upd b e) M σ w'/\CT ρ M (ρ.upd b e) M:=by
 have h:=s.sr;have g:CT ρ M (ρ.upd b e) M:=⟨λb' e₀ he=>⟨e₀,(Ren.zAv ρ e (λhb=>by subst hb;rw [hn] at he;cases he)).trans he,.inl rfl⟩,λ_ _ h=>h⟩
 have hff:=hf g;have hheap: ∀ x,x<w.heap.size->w'.heap[x]? = w.heap[x]? := λx hx=>by rw [hw,Array.getElem?_push];rw [if_neg (by omega)]
 refine ⟨⟨⟨?_,?_,?_,?_,?_⟩,s.g.trans g,λx hx hne=>?_,by rw [hw];have:=s.size;simp;omega,?_,?_,s.freshM,hos.trans s.os,htp.trans s.tape,hout.trans s.output,s.n,s.tch,s.keep,s.none,λb' e₀ he ht=>?_⟩,g⟩
 ·intro b' e₀ he;by_cases hbb:b'=b
  ·subst hbb;rw [Ren.zAw] at he;cases he;rw [ho];exact hff
  ·rw [Ren.zAv _ _ hbb] at he;exact (h.fits b' e₀ he).mono g (hheap _ (h.lt he))
 ·intro b' e₀ he;by_cases hbb:b'=b
  ·subst hbb;exact hb
  ·rw [Ren.zAv _ _ hbb] at he;exact h.bd _ _ he
 ·intro b' b'' e₀ e₁ he he' hx;by_cases hbb:b'=b
  ·by_cases hb':b''=b
   ·rw [hbb,hb']
   ·subst hbb;rw [Ren.zAw] at he;cases he;rw [Ren.zAv _ _ hb'] at he';have:=h.lt he';omega
  ·by_cases hb':b''=b
   ·subst hb';rw [Ren.zAw] at he';cases he';rw [Ren.zAv _ _ hbb] at he;have:=h.lt he;omega
   ·rw [Ren.zAv _ _ hbb] at he;rw [Ren.zAv _ _ hb'] at he';exact h.inj _ _ _ _ he he' hx
 ·intro x o ho;have:=h.mem x o ho;rw [hheap x (Array.getElem?_eq_some_iff.1 this).1];exact this
 ·intro b' e₀ he;by_cases hbb:b'=b
  ·subst hbb;rw [Ren.zAw] at he;cases he;cases hm:M e.x with
   | none=>rfl
   | some o=>have:=(Array.getElem?_eq_some_iff.1 (h.mem _ _ hm)).1;omega
  ·rw [Ren.zAv _ _ hbb] at he;exact h.disj _ _ he
 ·have:=s.size;rw [hheap x (by omega)];exact s.frame x hx hne
 ·intro b' e' he;by_cases hbb:b'=b
  ·subst hbb;rw [Ren.zAw] at he;cases he;have:=s.size;exact .inr (by omega)
  ·rw [Ren.zAv _ _ hbb] at he;exact s.fresh b' e' he
 ·intro b' e' he hlt;rw [Ren.zAv _ _ (by omega)] at he;exact s.old b' e' he hlt
 ·obtain ⟨h1,h2⟩:=s.held b' e₀ he ht;exact ⟨(Ren.zAv ρ e (λhb=>by subst hb;rw [hn] at h1;cases h1)).trans h1,(hheap _ (h.lt h1)).trans h2⟩
section
variable {E:Env}
theorem St.zAj {σ:St} {a b:AO} (h:σ.new a=σ.new b):a=b:=by
 have h1:(σ.new a).get σ.n=some a:=by rw [St.zAe,if_pos rfl]
 rw [h,St.zAe,if_pos rfl] at h1;exact (Option.some.inj h1).symm
def IC (E:Env) (ev:Operand->Option V) (o:Oper) (b:Nat) (v:V) (obj:AO):Prop:=∃ σ:St,σ.n=b/\Aq E ev o.op σ=some (v,σ.new obj)
def Cy (o:Oper):Bool :=
 match o.op with
 | .move _ | .build ..=>true
 | _=>false
theorem dP {o:Oper} {ev:Operand->Option V} {v:V} {σ σ':St} (hk:Am E o=3) (h:Aq E ev o.op σ=some (v,σ')) :
 (Cy o=true/\(∀ τ,Aq E ev o.op τ=some (v,τ))/\σ'=σ)\/(Cy o=false/\∃ obj,IC E ev o σ.n v obj/\σ'=σ.new obj):=by
 have key:(∃ obj,σ'=σ.new obj)->∃ obj,IC E ev o σ.n v obj/\σ'=σ.new obj:=λ⟨obj,e⟩=>⟨obj,⟨σ,rfl,e▸h⟩,e⟩
 cases ho:o.op<;>simp only [Am,ho] at hk<;>try (exact absurd hk (by decide))
 case alloc t =>
  refine .inr ⟨by simp [Cy,ho],key ?_⟩;rw [ho] at h;simp only [Aq] at h;split at h
  ·cases h;exact ⟨_,rfl⟩
  ·cases h
 case makeMap t r =>
  refine .inr ⟨by simp [Cy,ho],key ?_⟩;cases r with
  | some r=>cases hk
  | none =>
   rw [ho] at h;simp only [Aq,Ct] at h;split at h
   ·cases h;exact ⟨_,rfl⟩
   ·rename_i h1 h2;cases h2
   ·cases h
 case makeSlice t l c =>
  refine .inr ⟨by simp [Cy,ho],key ?_⟩;rw [ho] at h;simp only [Aq] at h;split at h
  ·unfold Da at h
   repeat' split at h
   all_goals first | (cases h;done) | (cases h;exact ⟨_,rfl⟩) | skip
   all_goals (rename_i hh;cases hh)
  ·cases h
 case box t x =>
  refine .inr ⟨by simp [Cy,ho],key ?_⟩;rw [ho] at h;simp only [Aq] at h;split at h
  ·cases h;exact ⟨_,rfl⟩
  ·cases h
 case move x =>
  refine .inl ⟨by simp [Cy,ho],?_⟩;rw [ho] at h;simp only [Aq] at h ⊢;exact ⟨λτ=>Jb h τ,(CX h).2⟩
 case build t ps =>
  refine .inl ⟨by simp [Cy,ho],?_⟩;rw [ho] at h;simp only [Aq] at h ⊢;split at h
  ·exact ⟨λτ=>Jb h τ,(CX h).2⟩
  ·cases h
 case convert=>split at hk<;>cases hk
 case call c=>split at hk<;>cases hk
 case binOp=>split at hk<;>cases hk
 case buildSlice=>split at hk<;>cases hk
theorem lJ {o:Oper} (hk:Am E o=3):o.guard=none/\∃ d,o.dst=some d:=by
 cases ho:o.op<;>simp only [Am,ho] at hk<;>try (exact absurd hk (by decide))
 case alloc t =>
  split at hk
  ·rename_i h;simp only [Bool.and_eq_true,Option.isNone_iff_eq_none,Option.isSome_iff_exists] at h;exact h
  ·cases hk
 case makeMap t r =>
  cases r with
  | some r=>cases hk
  | none =>
   simp only at hk;split at hk
   ·rename_i h;simp only [Bool.and_eq_true,Option.isNone_iff_eq_none,Option.isSome_iff_exists] at h;exact h
   ·cases hk
 case makeSlice t l c =>
  split at hk
  ·rename_i h;simp only [Bool.and_eq_true,Option.isNone_iff_eq_none,Option.isSome_iff_exists] at h;exact h.1
  ·cases hk
 case box t x =>
  split at hk
  ·rename_i h;simp only [Bool.and_eq_true,Option.isNone_iff_eq_none,Option.isSome_iff_exists] at h;exact h.1
  ·cases hk
 case move x =>
  split at hk
  ·rename_i h;simp only [Bool.and_eq_true,Option.isNone_iff_eq_none,Option.isSome_iff_exists] at h;exact h.1
  ·cases hk
 case build t x =>
  split at hk
  ·rename_i h;simp only [Bool.and_eq_true,Option.isNone_iff_eq_none,Option.isSome_iff_exists] at h;exact h.1
  ·cases hk
 case convert=>split at hk<;>cases hk
 case call c=>split at hk<;>cases hk
 case binOp=>split at hk<;>cases hk
 case buildSlice=>split at hk<;>cases hk
def NY (E:Env) (l:List Oper):Prop:=∀ (k:Nat) (o:Oper) (d:Nat),l[k]? = some o->Am E o=3->.tmp d∈o.op.operands->∀ (k':Nat) (o':Oper),l[k']? = some o'->o'.dst=some d->k'<k
theorem IC.congr {ev ev':Operand->Option V} {o:Oper} {b:Nat} {v:V} {obj:AO} (h:IC E ev o b v obj) (he: ∀ x∈o.op.operands,ev x=ev' x):IC E ev' o b v obj:=by
 obtain ⟨σ,h1,h2⟩:=h;exact ⟨σ,h1,by rw [<-KH he];exact h2⟩
structure Nf (E:Env) (l:List Oper) (fr:Fr) (σ:St) (fr1:Fr) (σ1:St) (hb:Nat->Nat):Prop where
 n:σ.n<=σ1.n
 tch:σ1.tch=σ.tch
 get: ∀ b,b<σ.n->σ1.get b=σ.get b
 fn:fr1.n=fr.n
 fd:fr1.d=fr.d
 same: ∀ t,(∀ (k:Nat) (o:Oper),l[k]? = some o->Am E o=3->o.dst≠some t)->fr1.t.get t=fr.t.get t
 calmly: ∀ (k:Nat) (o:Oper),l[k]? = some o->Am E o=3->Cy o=true->∃ v,(∀ τ,Aq E fr1.ev o.op τ=some (v,τ))/\∀ d,o.dst=some d->fr1.t.get d=some v/\d<fr1.n
 made: ∀ (k:Nat) (o:Oper),l[k]? = some o->Am E o=3->Cy o=false->σ.n<=hb k/\hb k<σ1.n/\∃ v obj,IC E fr1.ev o (hb k) v obj/\σ1.get (hb k)=some obj/\∀ d,o.dst=some d->fr1.t.get d=some v/\d<fr1.n
 inj: ∀ (k k':Nat) (o o':Oper),l[k]? = some o->l[k']? = some o'->Am E o=3->Am E o'=3->Cy o=false->Cy o'=false->hb k=hb k'->k=k'
theorem dO: ∀ (l:List Oper) (fr fr1:Fr) (σ σ1:St),HV E l fr σ=some (fr1,σ1) ->
 (∀ (k k':Nat) (o o':Oper) (t:Nat),l[k]? = some o->l[k']? = some o'->o.dst=some t->o'.dst=some t->k=k')->NY E l->∃ hb,Nf E l fr σ fr1 σ1 hb:=by
 intro l
 induction l with
 | nil =>
  intro fr fr1 σ σ1 h _ _;cases h;exact ⟨λ_=>0,⟨Nat.le_refl _,rfl,λ_ _=>rfl,rfl,rfl,λ_ _=>rfl,λk o h=>by simp at h,λk o h=>by simp at h,λk k' o o' h=>by simp at h⟩⟩
 | cons o r ih =>
  intro fr fr1 σ σ1 h hssa hap;have hap':NY E r:=λk o d h1 h2 h3 k' o' h4 h5=>by
   have:=hap (k+1) o d (by simpa using h1) h2 h3 (k'+1) o' (by simpa using h4) h5;omega
  have hssa': ∀ (k k':Nat) (o o':Oper) (t:Nat),r[k]? = some o->r[k']? = some o'->o.dst=some t->o'.dst=some t->k=k':=λk k' o o' t h1 h2 h3 h4=>by
   have:=hssa (k+1) (k'+1) o o' t (by simpa using h1) (by simpa using h2) h3 h4;omega
  unfold HV at h;split at h
  ·rename_i hk;have hk:=Nat.eq_of_beq_eq_true hk;split at h
   ·rename_i v σ' h1;split at h
    ·rename_i fr' h2;obtain ⟨p1,p2,p3,p4⟩:=P6 h2;have hfresh: ∀ d,o.dst=some d->∀ (k:Nat) (o':Oper),r[k]? = some o'->Am E o'=3->o'.dst≠some d:=λd hd k o' hr _ ht'=>by
      have:=hssa 0 (k+1) o o' d rfl (by simpa using hr) hd ht';omega
     have hev: ∀ {hb:Nat->Nat} {σ2:St},Nf E r fr' σ2 fr1 σ1 hb->∀ x∈o.op.operands,fr.ev x=fr1.ev x:=λF x hx=>by
      cases x with
      | tmp t =>
       show fr.t.get t=fr1.t.get t;rw [F.same t λk o' hr hk' hd=>by
        have:=hap 0 o t rfl hk hx (k+1) o' (by simpa using hr) hd;omega]
       refine (p3 t λhd=>?_).symm;have:=hap 0 o t rfl hk hx 0 o rfl hd;omega
      | _=>rfl
     rcases dP hk h1 with ⟨hc,h3,rfl⟩ | ⟨hc,obj,h3,rfl⟩
     ·obtain ⟨hb,F⟩:=ih fr' fr1 _ σ1 h hssa' hap';refine ⟨λk=>match k with | 0=>0 | k+1=>hb k,⟨F.n,F.tch,F.get,F.fn.trans p1,F.fd.trans p2,λt ht=>?_,λk o' hl hk' hc'=>?_,λk o' hl hk' hc'=>?_,λk k' o1 o2 h4 h5 h6 h7 h8 h9 h10=>?_⟩⟩
      ·rw [F.same t λk o' hr=>ht (k+1) o' (by simpa using hr)];exact p3 t (ht 0 o rfl hk)
      ·cases k with
       | zero =>
        simp at hl;subst hl;refine ⟨v,λτ=>by rw [<-KH (hev F)];exact h3 τ,λd hd=>?_⟩;rw [F.same d (hfresh d hd),F.fn];exact p4 d hd
       | succ k=>exact F.calmly k o' (by simpa using hl) hk' hc'
      ·cases k with
       | zero=>simp at hl;subst hl;rw [hc] at hc';cases hc'
       | succ k=>exact F.made k o' (by simpa using hl) hk' hc'
      ·cases k with
       | zero=>simp at h4;subst h4;rw [hc] at h8;cases h8
       | succ k =>
        cases k' with
        | zero=>simp at h5;subst h5;rw [hc] at h9;cases h9
        | succ k' =>
         have:=F.inj k k' o1 o2 (by simpa using h4) (by simpa using h5) h6 h7 h8 h9 h10;omega
     ·obtain ⟨hb,F⟩:=ih fr' fr1 _ σ1 h hssa' hap';have hn1:(σ.new obj).n=σ.n+1:=rfl;have Fn:=F.n;rw [hn1] at Fn;refine ⟨λk=>match k with | 0=>σ.n | k+1=>hb k,⟨by omega,F.tch,λb hlt=>?_,F.fn.trans p1,F.fd.trans p2,λt ht=>?_,λk o' hl hk' hc'=>?_,λk o' hl hk' hc'=>?_,λk k' o1 o2 h4 h5 h6 h7 h8 h9 h10=>?_⟩⟩
      ·rw [F.get b (by rw [hn1];omega),St.zAe,if_neg (by omega)]
      ·rw [F.same t λk o' hr=>ht (k+1) o' (by simpa using hr)];exact p3 t (ht 0 o rfl hk)
      ·cases k with
       | zero=>simp at hl;subst hl;rw [hc] at hc';cases hc'
       | succ k=>exact F.calmly k o' (by simpa using hl) hk' hc'
      ·cases k with
       | zero =>
        simp at hl;subst hl;refine ⟨Nat.le_refl _,by show σ.n<σ1.n;omega,v,obj,h3.congr (hev F),?_,λd hd=>?_⟩
        ·show σ1.get σ.n=_;rw [F.get σ.n (by rw [hn1];omega),St.zAe,if_pos rfl]
        ·rw [F.same d (hfresh d hd),F.fn];exact p4 d hd
       | succ k =>
        obtain ⟨q1,q2,q3⟩:=F.made k o' (by simpa using hl) hk' hc';rw [hn1] at q1;exact ⟨by show σ.n<=hb k;omega,q2,q3⟩
      ·cases k with
       | zero =>
        cases k' with
        | zero=>rfl
        | succ k' =>
         have:=(F.made k' o2 (by simpa using h5) h7 h9).1;rw [hn1] at this;have h10:σ.n=hb k':=h10;omega
       | succ k =>
        cases k' with
        | zero =>
         have:=(F.made k o1 (by simpa using h4) h6 h8).1;rw [hn1] at this;have h10:hb k=σ.n:=h10;omega
        | succ k' =>
         have:=F.inj k k' o1 o2 (by simpa using h4) (by simpa using h5) h6 h7 h8 h9 h10;omega
    ·cases h
   ·cases h
  ·rename_i hk;have hk:Am E o≠3:=λhe=>hk (by rw [he];rfl)
   obtain ⟨hb,F⟩:=ih fr fr1 σ σ1 h hssa' hap';refine ⟨λk=>match k with | 0=>0 | k+1=>hb k,⟨F.n,F.tch,F.get,F.fn,F.fd,λt ht=>F.same t λk o' hr=>ht (k+1) o' (by simpa using hr),λk o' hl hk' hc'=>?_,λk o' hl hk' hc'=>?_,λk k' o1 o2 h4 h5 h6 h7 h8 h9 h10=>?_⟩⟩
   ·cases k with
    | zero=>simp at hl;subst hl;exact absurd hk' hk
    | succ k=>exact F.calmly k o' (by simpa using hl) hk' hc'
   ·cases k with
    | zero=>simp at hl;subst hl;exact absurd hk' hk
    | succ k=>exact F.made k o' (by simpa using hl) hk' hc'
   ·cases k with
    | zero=>simp at h4;subst h4;exact absurd h6 hk
    | succ k =>
     cases k' with
     | zero=>simp at h5;subst h5;exact absurd h7 hk
     | succ k' =>
      have:=F.inj k k' o1 o2 (by simpa using h4) (by simpa using h5) h6 h7 h8 h9 h10;omega
end
def NM (F:Fence) (n:Nat) (P:Program) (ops:Array Oper) (Q:Exit->Act->World->Prop) (i:Nat) (K:Act->World->Prop) (a:Act) (w:World):Prop :=
 match ops[i]? with
 | none=>K a w
 | some o=>if Region.wanted o (yielded ops a.tmps) then o.wpIn F n P a w K Q else (∀ f,o.about P w a.eval=some f->F.fn f)/\K (a.put o.dst undef) w
theorem xI {F:Fence} {n:Nat} {P:Program} {ops:Array Oper} {Q:Exit->Act->World->Prop} {i:Nat} {rest:List Nat} {a:Act} {w:World} :
 wpOpsIn F n P ops Q (i :: rest) a w=NM F n P ops Q i (wpOpsIn F n P ops Q rest) a w:=by
 cases h:ops[i]? <;> simp [wpOpsIn,NM,h]
theorem FR.leaf {ρ:Ren} {M:Mem} {ms:List Nat} {fr:Fr} {a:Act} (h:FR ρ M ms fr a):FR ρ M ms { fr with t:=.leaf } a :=
 ⟨λt v hv=>(by rw [show ({ fr with t:=.leaf }: Fr).t.get t=none from PT.get_leaf t] at hv;cases hv),h.size,h.defers⟩
theorem FR.put_leaf {ρ:Ren} {M:Mem} {ms:List Nat} {n:Nat} {d:List (FuncId×List V)} {a:Act} (h:FR ρ M ms { t:=.leaf,n:=n,d:=d } a) (dst:Option Nat) (v:Value):FR ρ M ms { t:=.leaf,n:=n,d:=d } (a.put dst v):=by
 refine ⟨λt v hv=>(by rw [show ({ t:=.leaf,n:=n,d:=d }: Fr).t.get t=none from PT.get_leaf t] at hv;cases hv),?_,?_⟩
 ·cases dst with
  | none=>exact h.size
  | some d=>simp only [Act.put,Array.size_setIfInBounds];exact h.size
 ·cases dst with
  | none=>exact h.defers
  | some d=>exact h.defers
theorem Y3 {md:Region.Mode} {e:Edge} (h:Region.binds .any e=true):Region.binds md e=true:=by
 cases hg:e.ground<;>simp [Region.binds,hg] at h ⊢
structure Reg (E:Env) (call:SS.Call) (ops:List Oper) (σ0 σ1:St) (fr1:Fr) (hb:Nat->Nat) (wr:PT Nat) (dF:DS):Prop where
 edges:Gx ops 0=true
 hwr:Gl ops 0 .leaf=some wr
 reads:Kv E ops (Ba ops) wr (Ba ops) 0=true
 rows:KX (BU E (Ba ops) 0)=true
 kinds: ∀ (k:Nat) (o:Oper),ops[k]? = some o->Am E o<4
 tF:dF.t=(BU E (Ba ops) 0).length
 calmly: ∀ (k:Nat) (o:Oper),ops[k]? = some o->Am E o=3->Cy o=true->∃ v,(∀ τ,Aq E dF.fr.ev o.op τ=some (v,τ))/\∀ d,o.dst=some d->dF.fr.t.get d=some v/\d<dF.fr.n
 ho: ∀ (k:Nat) (o:Oper),ops[k]? = some o->Am E o=3->Cy o=false->σ0.n<=hb k/\hb k<σ1.n/\∃ v obj,IC E dF.fr.ev o (hb k) v obj/\σ1.get (hb k)=some obj/\∀ d,o.dst=some d->dF.fr.t.get d=some v/\d<dF.fr.n
 apart: ∀ (k:Nat) (o:Oper) (m d:Nat),(Ba ops)[k]? = some (o,m)->Am E o=3->.tmp d∈o.op.operands->∀ j,wr.get d=some j->m.testBit j=true
 hinj: ∀ (k k':Nat) (o o':Oper),ops[k]? = some o->ops[k']? = some o'->Am E o=3->Am E o'=3->Cy o=false->Cy o'=false->hb k=hb k'->k=k'
 does: ∀ (k:Nat) (o:Oper) (m:Nat),(Ba ops)[k]? = some (o,m)->Am E o≠3->∃ v fk,GN E call ops (BU E (Ba ops) 0) fk (hist dF) dF.t k o m v/\(∀ t,o.dst=some t->dF.fr.t.get t=some v/\t<dF.fr.n)/\(∀ t,GA wr m (.tmp t)=true->dF.fr.t.get t=fk.t.get t) /\
  ∀ (t j:Nat) (o':Oper) (m':Nat),wr.get t=some j->(Ba ops)[j]? = some (o',m')->m'.testBit k=true->fr1.t.get t=fk.t.get t
abbrev L (l:Array Bool) (i:Nat):Prop:=l.getD i false=true
theorem Fh {l:Array Bool} {i j:Nat} (hi:i<l.size):L (l.setIfInBounds i true) j↔L l j\/j=i:=by
 unfold L;by_cases h:i=j
 ·subst h;simp [hi]
 ·rw [getD_set_ne false h];constructor
  ·exact .inl
  ·rintro (h1 | h1)
   ·exact h1
   ·exact absurd h1.symm h
theorem Zc {l:Array Bool} {i:Nat} (hi:i<l.size) (hn:¬L l i):(l.setIfInBounds i true).toList.countP id=l.toList.countP id+1:=by
 have hl:i<l.toList.length:=by simpa using hi
 have hf:l.toList[i]=false:=by
  unfold L at hn;simp only [Array.getD_eq_getD_getElem?,Array.getElem?_eq_getElem hi,Option.getD_some,Bool.not_eq_true] at hn;simpa using hn
 rw [Array.toList_setIfInBounds,List.countP_set hl,hf];simp
structure Inv (ms:List Nat) (E:Env) (call:SS.Call) (ops:List Oper) (σ0 σ1:St) (fr1:Fr) (hb:Nat->Nat) (wr:PT Nat) (dF:DS) (ρ0:Ren) (M0:Mem) (w0:World) (l:Array Bool) (fuel:Nat) (ρ:Ren) (M:Mem) (e:Nat) (σ:St) (a:Act) (w:World):Prop where
 hist:hist dF e=some σ
 step:A8 E.P ρ0 M0 σ0 w0 ρ M σ w
 effs: ∀ j i m:Nat,(BU E (Ba ops) 0)[j]? = some (i,m)->(L l i↔j<e)
 le:e<=dF.t
 tmps: ∀ t v,dF.fr.t.get t=some v->(∀ i,wr.get t=some i->L l i)->∃ v',a.tmps[t]? = some v'/\VR ρ M v v'
 init: ∀ (t:Nat) (v:V) (j:Nat) (o:Oper),fr1.t.get t=some v->wr.get t=some j->ops[j]? = some o->Am E o<3->¬L l j->∃ v',a.tmps[t]? = some v'/\VR ρ M v v'
 late: ∀ (k:Nat) (o:Oper),ops[k]? = some o->Am E o=3->Cy o=false->¬L l k->ρ (hb k)=none/\σ.get (hb k)=σ1.get (hb k)/\hb k<σ.n
 fr:FR ρ M ms { t:=.leaf,n:=dF.fr.n,d:=dF.fr.d } a
 size:l.size=ops.length
 closed: ∀ k m i:Nat,L l k->(bits ops)[k]? = some m->m.testBit i=true->L l i
 count:l.toList.countP id+fuel=ops.length
section
variable {F:Fence} {n:Nat} {ms:List Nat} {E:Env} {call:SS.Call} {ops:List Oper} {σ0 σ1:St} {fr1:Fr} {hb:Nat->Nat} {wr:PT Nat} {dF:DS} {ρ0:Ren} {M0:Mem} {w0:World} {Q:Exit->Act->World->Prop}
theorem qP {k m t:Nat} {o:Oper} (hed:Gx ops 0=true) (hwr:Gl ops 0 .leaf=some wr) (hk:(Ba ops)[k]? = some (o,m)) (hr:GA wr m (.tmp t)=true) :
 ∀ (k':Nat) (o':Oper),ops[k']? = some o'->o'.dst=some t->m.testBit k'=true/\k'<k:=by
 intro k' o' ho hd;obtain ⟨_,h2,_⟩:=Gm hwr;have:=h2 k' o' t ho hd;rw [Nat.zero_add] at this;unfold GA at hr;simp only [this] at hr;exact ⟨hr,N9 hed k m k' (Du.1 hk).2 hr⟩
theorem qU {fr:Fr} {σ:St} (hok:Kw E ops=true) (hh:HV E ops fr σ=some (fr1,σ1)) (hd:Ei E call ops (BU E (Ba ops) 0) (Ba ops) 0 { fr:=fr1,past:=[σ1],t:=0,pend:=[] }=some dF) :
 ∃ hb wr,Reg E call ops σ σ1 fr1 hb wr dF/\Nf E ops fr σ fr1 σ1 hb/\Q4 E call ops (BU E (Ba ops) 0) (Ba ops) 0 { fr:=fr1,past:=[σ1],t:=0,pend:=[] } dF:=by
 unfold Kw at hok;simp only [Bool.and_eq_true] at hok;obtain ⟨⟨⟨⟨h1,h2⟩,h3⟩,h4⟩,_⟩:=hok;split at h2
 ·rename_i wr hwr;rw [Bool.and_eq_true] at h2;obtain ⟨h2,h2a⟩:=h2;obtain ⟨_,hw2,_⟩:=Gm hwr;have hap3: ∀ (k:Nat) (o:Oper) (m d:Nat),(Ba ops)[k]? = some (o,m)->Am E o=3->.tmp d∈o.op.operands->∀ j,wr.get d=some j->m.testBit j=true/\∀ o',ops[j]? = some o'->Am E o'=3:=λk o m d hk hk3 hx j hj=>by
   have h5:=List.all_eq_true.1 h2a (o,m) (List.mem_of_getElem? hk);unfold RD at h5;simp only [hk3,Nat.beq_refl,Bool.not_true,Bool.false_or,List.all_eq_true] at h5;have h6:=h5 (.tmp d) (by simpa using hx);simp only [hj,Bool.and_eq_true] at h6;refine ⟨h6.1,λo' ho'=>?_⟩;have h7:=h6.2;rw [ho'] at h7;exact Nat.eq_of_beq_eq_true h7
  have hget: ∀ (k:Nat) (o:Oper),ops[k]? = some o->∃ m,(Ba ops)[k]? = some (o,m):=λk o ho=>by
   have hlt:=(List.getElem?_eq_some_iff.1 ho).1;obtain ⟨m,hm⟩: ∃ m,(bits ops)[k]? = some m:=⟨_,List.getElem?_eq_getElem (by rw [bits,Kh];exact hlt)⟩
   exact ⟨m,Du.2 ⟨ho,hm⟩⟩
  have hapart:NY E ops:=λk o d ho hk3 hx k' o' ho' hd=>by
   obtain ⟨m,hm⟩:=hget k o ho;have hw:=hw2 k' o' d ho' hd;rw [Nat.zero_add] at hw;have h5:=(hap3 k o m d hm hk3 hx k' hw).1;exact N9 h1 k m k' (Du.1 hm).2 h5
  have hssa: ∀ (k k':Nat) (o o':Oper) (t:Nat),ops[k]? = some o->ops[k']? = some o'->o.dst=some t->o'.dst=some t->k=k':=by
   intro k k' o o' t h5 h6 h7 h8;have e1:=hw2 k o t h5 h7;have e2:=hw2 k' o' t h6 h8;rw [e1] at e2;simp at e2;exact e2
  have hk: ∀ (k:Nat) (o:Oper),ops[k]? = some o->Am E o<4:=λk o ho=>by
   have:=List.all_eq_true.1 h4 o (List.mem_of_getElem? ho);exact (Nat.blt_eq).mp this
  obtain ⟨hb,HF⟩:=dO ops fr fr1 σ σ1 hh hssa hapart;have RF:=Zf (Ba ops) 0 _ dF hd rfl rfl (λk o m h=>hk k o (Du.1 h).1) λk k' o m o' m' t h5 h6 h7 h8=>hssa k k' o o' t (Du.1 h5).1 (Du.1 h6).1 h7 h8
  have hdst: ∀ (k:Nat) (o:Oper) (d:Nat),ops[k]? = some o->Am E o=3->o.dst=some d->dF.fr.t.get d=fr1.t.get d:=λk o d ho hk3 hd' =>
   RF.same d λk' o' m h5 h6 h7=>by
    have:=hssa k k' o o' d ho (Du.1 h5).1 hd' h7;subst this;have h9:=(Du.1 h5).1;rw [ho] at h9;cases h9;exact h6 hk3
  have hev: ∀ (k:Nat) (o:Oper),ops[k]? = some o->Am E o=3->∀ x∈o.op.operands,fr1.ev x=dF.fr.ev x:=λk o ho hk3 x hx=>by
   cases x with
   | tmp t =>
    show fr1.t.get t=dF.fr.t.get t;obtain ⟨m,hm⟩:=hget k o ho;refine (RF.same t λk' o' m' h5 h6 h7=>?_).symm;have hw:=hw2 k' o' t (Du.1 h5).1 h7;rw [Nat.zero_add] at hw;exact h6 ((hap3 k o m t hm hk3 hx k' hw).2 o' (Du.1 h5).1)
   | _=>rfl
  refine ⟨hb,wr,⟨h1,hwr,h2,h3,hk,?_,λk o ho hk3 hc=>?_,λk o ho hk3 hc=>?_,λk o m d hm hk3 hx j hj=>(hap3 k o m d hm hk3 hx j hj).1,HF.inj,λk o m hkm hk3=>?_⟩,HF,RF⟩
  ·have:=RF.tt;simpa using this
  ·obtain ⟨v,q1,q2⟩:=HF.calmly k o ho hk3 hc;refine ⟨v,λτ=>by rw [<-KH (hev k o ho hk3)];exact q1 τ,λd hd'=>?_⟩;rw [hdst k o d ho hk3 hd',RF.nn];exact q2 d hd'
  ·obtain ⟨q1,q2,v,obj,q3,q4,q5⟩:=HF.made k o ho hk3 hc;refine ⟨q1,q2,v,obj,q3.congr (hev k o ho hk3),q4,λd hd'=>?_⟩;rw [hdst k o d ho hk3 hd',RF.nn];exact q5 d hd'
  ·obtain ⟨fr',v,q1,q2,q3,q4⟩:=RF.does k o m hkm hk3;rw [Nat.zero_add] at q1;refine ⟨v,fr',q1,q2,λt ht=>q3 t λk' o' m' hle hk' _ hd'=>?_,λt j o' m' hw hj hb=>(q4 t λk' o2 m2 hlt hk' _ hd'=>?_).symm⟩
   ·have:=(qP h1 hwr hkm ht k' o' (Du.1 hk').1 hd').2;omega
   ·have e1:=hw2 k' o2 t (Du.1 hk').1 hd';rw [hw] at e1;have:=N9 h1 j m' k (Du.1 hj).2 hb;simp only [Option.some.injEq] at e1;omega
 ·cases h2
theorem w9 {ρ:Ren} {M:Mem} {o:Oper} {fr:Fr} {a:Act} {r:Bool} (h:Ch ops o fr=some r) (hfr: ∀ j w p d v,o.guard=some (j,w)->ops[j]? = some p->p.dst=some d->fr.t.get d=some v->∃ v',a.tmps[d]? = some v'/\VR ρ M v v') :
 Region.wanted o (yielded ops.toArray a.tmps)=r:=by
 unfold Ch at h;unfold Region.wanted;split at h
 ·rename_i hg;rw [hg];cases h;rfl
 ·rename_i j want hg;rw [hg];split at h
  ·rename_i p hp;split at h
   ·rename_i d hd;split at h
    ·rename_i b hb;cases h;obtain ⟨v',h1,h2⟩:=hfr j want p d _ hg hp hd hb;cases h2;have:yielded ops.toArray a.tmps j=some b:=by simp [yielded,hp,hd,h1]
     simp only [this];cases b<;>cases want<;>rfl
    ·rename_i hb;cases h;obtain ⟨v',h1,h2⟩:=hfr j want p d _ hg hp hd hb;cases h2;have:yielded ops.toArray a.tmps j=none:=by simp [yielded,hp,hd,h1]
     simp only [this];cases want<;>rfl
    ·cases h
   ·cases h
  ·cases h
theorem QW {l:Array Bool} {i:Nat} {o:Oper} {ρ ρ':Ren} {M M':Mem} {a:Act} {v:V} {v':Value} (hwr:Gl ops 0 .leaf=some wr) (ho:ops[i]? = some o) (hi:i<l.size) (hg:CT ρ M ρ' M')
 (ht: ∀ t v,dF.fr.t.get t=some v->(∀ i,wr.get t=some i->L l i)->∃ v',a.tmps[t]? = some v'/\VR ρ M v v') (hsz:a.tmps.size=dF.fr.n) (hd: ∀ t,o.dst=some t->dF.fr.t.get t=some v/\t<dF.fr.n) (hv:VR ρ' M' v v') :
 ∀ t u,dF.fr.t.get t=some u->(∀ j,wr.get t=some j->L (l.setIfInBounds i true) j)->∃ u',(a.put o.dst v').tmps[t]? = some u'/\VR ρ' M' u u':=by
 intro t u hu hL;obtain ⟨_,h2,h3⟩:=Gm hwr;by_cases hdt:o.dst=some t
 ·obtain ⟨h4,h5⟩:=hd t hdt;rw [h4] at hu;cases hu;exact ⟨v',by rw [hdt];simp [Act.put,hsz,h5],hv⟩
 ·obtain ⟨u',h6,h7⟩:=ht t u hu λj hj=>by
   rcases (Fh hi).1 (hL j hj) with h8 | h8
   ·exact h8
   ·subst h8;rcases h3 t _ hj with h9 | ⟨k,o',h9,h10,h11⟩
    ·rw [PT.get_leaf] at h9;cases h9
    ·rw [Nat.zero_add] at h9;subst h9;rw [ho] at h10;cases h10;exact absurd h11 hdt
  refine ⟨u',?_,h7.mono hg⟩;cases hdst:o.dst with
  | none=>exact h6
  | some d =>
   have:d≠t:=λhe=>hdt (by rw [hdst,he])
   simp only [Act.put,Array.getElem?_setIfInBounds_ne this];exact h6
theorem PK {l:Array Bool} {i:Nat} {o:Oper} {ρ ρ':Ren} {M M':Mem} {a:Act} {v':Value} (hwr:Gl ops 0 .leaf=some wr) (ho:ops[i]? = some o) (hi:i<l.size) (hg:CT ρ M ρ' M')
 (ht: ∀ (t:Nat) (v:V) (j:Nat) (o:Oper),fr1.t.get t=some v->wr.get t=some j->ops[j]? = some o->Am E o<3->¬L l j->∃ v',a.tmps[t]? = some v'/\VR ρ M v v') :
 ∀ (t:Nat) (v:V) (j:Nat) (o2:Oper),fr1.t.get t=some v->wr.get t=some j->ops[j]? = some o2->Am E o2<3->¬L (l.setIfInBounds i true) j->∃ u',(a.put o.dst v').tmps[t]? = some u'/\VR ρ' M' v u':=by
 intro t v j o2 h1 h2 h3 h4 h5;rw [Fh hi] at h5;obtain ⟨u',h6,h7⟩:=ht t v j o2 h1 h2 h3 h4 (λh=>h5 (.inl h));refine ⟨u',?_,h7.mono hg⟩;obtain ⟨_,hw,_⟩:=Gm hwr;cases hdst:o.dst with
 | none=>exact h6
 | some d =>
  have:d≠t:=λhe=>by
   subst he;have:=hw i o d ho hdst;rw [h2,Nat.zero_add] at this;simp only [Option.some.injEq] at this;exact h5 (.inr this)
  simp only [Act.put,Array.getElem?_setIfInBounds_ne this];exact h6
theorem eZ (hF:Wd F) (hdf:F.round=none\/ops.all Ez=true) (hval:FJ E) (hbi:FE E) (hcall:Ew E call) (R:Reg E call ops σ0 σ1 fr1 hb wr dF) (hG:GOk E M0) {md:Region.Mode} {l:Array Bool} {fuel:Nat} {ρ:Ren} {M:Mem} {e:Nat} {σ:St} {a:Act} {w:World} {i:Nat} {K:Act->World->Prop}
 (I:Inv ms E call ops σ0 σ1 fr1 hb wr dF ρ0 M0 w0 l (fuel+1) ρ M e σ a w) (hi:i∈Region.ready md ops.toArray l)
 (hK: ∀ ρ' M' e' σ' a' w',Inv ms E call ops σ0 σ1 fr1 hb wr dF ρ0 M0 w0 (l.setIfInBounds i true) fuel ρ' M' e' σ' a' w'->K a' w'):NM F n E.P ops.toArray Q i K a w:=by
 obtain ⟨hun,o,ho',hall⟩:=mem_ready.1 hi;have ho:ops[i]? = some o:=by simpa using ho'
 have hlt:i<ops.length:=(List.getElem?_eq_some_iff.1 ho).1;have hil:i<l.size:=by rw [I.size];exact hlt
 have hnL:¬L l i:=by
  unfold L;simp only [Array.getD_eq_getD_getElem?,Array.getElem?_eq_getElem hil,Option.getD_some] at hun ⊢;rw [hun];simp
 obtain ⟨m,hm⟩: ∃ m,(bits ops)[i]? = some m:=⟨_,List.getElem?_eq_getElem (by rw [bits,Kh];exact hlt)⟩
 have hom:(Ba ops)[i]? = some (o,m):=Du.2 ⟨ho,hm⟩;have hmask: ∀ j,m.testBit j=true->L l j:=λj hj=>by
  obtain ⟨ed,h1,h2,h3⟩:=RY hm ho hj;have h4:=hall ed (by simpa using h1) (Y3 h2);rcases h3 with rfl | ⟨m',h5,h6⟩
  ·exact h4
  ·exact I.closed _ m' j h4 h5 h6
 have hclosed: ∀ k m' j:Nat,L (l.setIfInBounds i true) k->(bits ops)[k]? = some m'->m'.testBit j=true->L (l.setIfInBounds i true) j:=λk m' j h1 h2 h3=>by
  rw [Fh hil] at h1 ⊢;rcases h1 with h1 | rfl
  ·exact .inl (I.closed k m' j h1 h2 h3)
  ·rw [hm] at h2;cases h2;exact .inl (hmask j h3)
 have hcount:(l.setIfInBounds i true).toList.countP id+fuel=ops.length:=by
  rw [Zc hil hnL];have:=I.count;omega
 have hro:=U6 R.reads hom;rw [Nat.zero_add] at hro;have hrd: ∀ t v,GA wr m (.tmp t)=true->dF.fr.t.get t=some v->∃ v',a.tmps[t]? = some v'/\VR ρ M v v':=λt v h1 h2=>I.tmps t v h2 λj hj=>hmask j (by
  unfold GA at h1;simp only [hj] at h1;exact h1)
 have hdo:F.round=none\/Ez o=true:=hdf.imp id λhc=>List.all_eq_true.1 hc o (List.mem_of_getElem? ho)
 unfold NM;simp only [ho'];by_cases hk3:Am E o=3
 ·
  obtain ⟨hg,d,hd⟩:=lJ hk3;have hw1:Region.wanted o (yielded ops.toArray a.tmps)=true:=by unfold Region.wanted;rw [hg]
  rw [hw1];simp only [if_true];have hne2: ∀ j k m':Nat,(BU E (Ba ops) 0)[j]? = some (k,m')->k≠i:=λj k m' hj hki=>by
   obtain ⟨k',o2,h1,h2,h3⟩:=IX hj;rw [Nat.zero_add] at h1;subst h1;subst hki;rw [hom] at h2;cases h2;omega
  have operand: ∀ (x:Operand) (u:V),x∈o.op.operands->dF.fr.ev x=some u->VR ρ M u (a.eval x):=λx u hx hu=>by
   cases x with
   | tmp t =>
    obtain ⟨v',h1,h2⟩:=I.tmps t u hu λj hj=>hmask j (R.apart i o m t hom hk3 hx j hj)
    have:a.eval (.tmp t)=v':=by simp [Act.eval,Array.getD_eq_getD_getElem?,h1]
    rw [this];exact h2
   | const c=>exact MX hu
   | global g=>cases hu;exact .gptr g 0
   | func f=>cases hu;exact .fn f [] [] .nil
  cases hcalm:Cy o with
  | true =>
   obtain ⟨v,q1,q2⟩:=R.calmly i o ho hk3 hcalm
   let ev2:Operand->Option V:=λx=>open Classical in if x∈o.op.operands then dF.fr.ev x else none
   have hev:EV ρ M ev2 a.eval:=λx u hx=>by
    simp only [ev2] at hx;split at hx
    ·rename_i hmem;exact operand x u hmem hx
    ·cases hx
   have hcong:Aq E dF.fr.ev o.op σ=Aq E ev2 o.op σ:=KH λx hx=>by simp only [ev2,if_pos hx]
   have hv0:=q1 σ;rw [hcong] at hv0;have hop:(∀ c,o.op≠.call c)/\(∀ c,o.op≠.defer c):=by
    unfold Cy at hcalm;constructor<;>(intro c hc;rw [hc] at hcalm;cases hcalm)
   have he:eOp E call ev2 o σ=some (v,σ):=by
    unfold eOp
    split
    ·rename_i c hc;exact absurd hc (hop.1 c)
    ·rename_i c hc;exact absurd hc (hop.2 c)
    ·exact hv0
   refine Ln hF hval hbi hcall hdo he I.step.sr (hG.mono I.step.g.mem) hev λρ' M' v' w' s hv=>?_
   refine hK ρ' M' e σ _ _ ⟨I.hist,I.step.trans s,λj k m' hj=>?_,I.le,QW R.hwr ho hil s.g I.tmps I.fr.size q2 hv,PK R.hwr ho hil s.g I.init,λk o' hok hk' hc' hnk=>?_,(I.fr.mono s.g).put_leaf _ _,by simpa using I.size,hclosed,hcount⟩
   ·rw [Fh hil,<-I.effs j k m' hj];have:=hne2 j k m' hj;simp [this]
   ·rw [Fh hil] at hnk;obtain ⟨z1,z2,z3⟩:=I.late k o' hok hk' hc' (λh=>hnk (.inl h));refine ⟨?_,(s.none _ z3 z1).trans z2,Nat.lt_of_lt_of_le z3 s.n⟩;cases hr:ρ' (hb k) with
    | none=>rfl
    | some e0=>obtain ⟨e1,he1⟩:=s.old _ e0 hr z3;rw [z1] at he1;cases he1
  | false =>
   obtain ⟨q1,q2,v,obj,⟨τ,hτ,hav⟩,q4,q5⟩:=R.ho i o ho hk3 hcalm;obtain ⟨l1,l2,l3⟩:=I.late i o ho hk3 hcalm hnL;rw [q4] at l2;have finish: ∀ (ρ':Ren) (w':World) (v':Value),A8 E.P ρ0 M0 σ0 w0 ρ' M σ w'->CT ρ M ρ' M->(∀ b,b≠hb i->ρ' b=ρ b)->VR ρ' M v v'->K (a.put o.dst v') w':=λρ' w' v' s g hsame hv=>by
    refine hK ρ' M e σ _ _ ⟨I.hist,s,λj k m' hj=>?_,I.le,QW R.hwr ho hil g I.tmps I.fr.size (λt ht=>q5 t ht) hv,PK R.hwr ho hil g I.init,λk o' hok hk' hc' hnk=>?_,(I.fr.mono g).put_leaf _ _,by simpa using I.size,hclosed,hcount⟩
    ·rw [Fh hil,<-I.effs j k m' hj];have:=hne2 j k m' hj;simp [this]
    ·rw [Fh hil] at hnk;obtain ⟨z1,z2,z3⟩:=I.late k o' hok hk' hc' (λh=>hnk (.inl h));refine ⟨?_,z2,z3⟩;rw [hsame _ (λhe=>hnk (.inr (R.hinj k i o' o hok ho hk' hk3 hc' hcalm he)))];exact z1
   have blk: ∀ (elem:TypeId) (rows:List V) (rows':Array Value) (u:Value),obj=.blk rows elem 0 false->VRL ρ M rows rows'.toList->(execOp a.eval o).run E.P w=.ok (.value u) (w.alloc (.cells rows' elem)) ->
    (∀ ρ',ρ'=ρ.upd (hb i) ⟨w.heap.size,0,0,rows'.size,E.P.cellsOf elem⟩->VR ρ' M v u)->o.wpIn F n E.P a w K Q:=λelem rows rows' u hobj h2 hrun hv=>by
    subst hobj;have hlen:rows.length=rows'.size:=by simpa using h2.length
    obtain ⟨s,g⟩:=Vq (w':=w.alloc (.cells rows' elem)) (e:=⟨w.heap.size,0,0,rows'.size,E.P.cellsOf elem⟩) I.step q1 l3 l1 l2 rfl rfl rfl rfl rfl (λg=>⟨rfl,λ_=>rfl,rfl,rows',(0,0),Ig w _,rfl,(by show 0+rows.length<=rows'.size;omega),(by
     show VRL _ M rows ((rows'.toList.drop 0).take rows.length);have:(rows'.toList.drop 0).take rows.length=rows'.toList:=by rw [List.drop_zero,hlen,<-Array.length_toList,List.take_length]
     rw [this];exact h2.mono g),λ_=>Kk⟩)
    apply I8 hF hdo;rw [hrun];exact finish _ _ _ s g (λb hb'=>Ren.zAv _ _ hb') (hv _ rfl)
   cases hop:o.op<;>simp only [Am,hop] at hk3<;>try (exact absurd hk3 (by decide))
   case alloc t =>
    rw [hop] at hav;simp only [Aq] at hav;split at hav
    ·rename_i z hz;simp only [Option.some.injEq,Prod.mk.injEq] at hav;obtain ⟨rfl,hnew⟩:=hav;have hobj:=(St.zAj hnew).symm;obtain ⟨zv,h1,h2⟩:=Fe (ρ:=ρ) (M:=M) hz w;exact blk t z.cells zv.cells (.pointer (some ⟨w.heap.size,0,none⟩)) hobj h2.cells (by simp only [execOp,hop,Instr.alloc,newVar,Sem.run_bind,h1,FO,Result.andThen_ok,Sem.run_pure]) (λρ' e=>by subst e;rw [hτ];exact MT _ _ _ rfl rfl)
    ·cases hav
   case box t x =>
    rw [hop] at hav;simp only [Aq] at hav;split at hav
    ·rename_i u hu;simp only [Option.some.injEq,Prod.mk.injEq] at hav;obtain ⟨rfl,hnew⟩:=hav;have hobj:=(St.zAj hnew).symm;have hx:=operand x u (by simp [hop,Op.operands]) hu;exact blk t u.cells (a.eval x).cells (.pointer (some ⟨w.heap.size,0,none⟩)) hobj hx.cells (by simp only [execOp,hop,Instr.box,newVar,Sem.run_bind,FO,Result.andThen_ok,Sem.run_pure]) (λρ' e=>by subst e;rw [hτ];exact MT _ _ _ rfl rfl)
    ·cases hav
   case makeSlice t x y =>
    rw [hop] at hav;simp only [Aq] at hav;split at hav
    ·rename_i lv cv hlv hcv;have hx:=operand x lv (by simp [hop,Op.operands]) hlv;have hy:=operand y cv (by simp [hop,Op.operands]) hcv;obtain ⟨elem,rows,rows',len,cap,hrun0,h2,h3,hv,hσ⟩:=UI hav hx hy w;subst hv;exact blk elem rows rows' (.slice (some ⟨w.heap.size,0,none⟩) len cap) (St.zAj hσ) h2 (by simp only [execOp,hop,Sem.run_bind,hrun0,Result.andThen_ok,Sem.run_pure]) (λρ' e=>by
      subst e;rw [hτ];exact VR.refCap (M:=M) (hb i) 0 len cap ⟨w.heap.size,0,0,rows'.size,E.P.cellsOf elem⟩ (Ren.zAw ρ (hb i) _) h3)
    ·cases hav
   case makeMap t r =>
    cases r with
    | some r=>cases hk3
    | none =>
     rw [hop] at hav;simp only [Aq,Ct] at hav;split at hav
     ·simp only [Option.some.injEq,Prod.mk.injEq] at hav;obtain ⟨rfl,hnew⟩:=hav;have hobj:=(St.zAj hnew).symm;subst hobj;obtain ⟨s,g⟩:=Vq (w':=w.alloc (.map #[] 0)) (e:=⟨w.heap.size,0,0,0,0⟩) I.step q1 l3 l1 l2 rfl rfl rfl rfl rfl (λ_=>⟨rfl,#[],Ig w _,.nil⟩);have hrun:(execOp a.eval o).run E.P w=.ok (.value (.map (some w.heap.size))) (w.alloc (.map #[] 0)):=by
       simp only [execOp,hop,Instr.makeMap,Option.map_none,Sem.run_bind,Mq,Result.andThen_ok,Sem.run_pure]
      apply I8 hF hdo;rw [hrun];exact finish _ _ _ s g (λb hb'=>Ren.zAv _ _ hb') (by rw [hτ];exact .map _ _ (Ren.zAw _ _ _) rfl)
     ·rename_i h1 h2;cases h2
     ·cases hav
   case move=>simp [Cy,hop] at hcalm
   case build=>simp [Cy,hop] at hcalm
   case convert=>split at hk3<;>cases hk3
   case call c=>split at hk3<;>cases hk3
   case binOp=>split at hk3<;>cases hk3
   case buildSlice=>split at hk3<;>cases hk3
 ·obtain ⟨v,fk,hdoes,hdst,hsame,hlate⟩:=R.does i o m hom hk3;have hwant: ∀ r,Ch ops o fk=some r->Region.wanted o (yielded ops.toArray a.tmps)=r:=λr hr=>w9 (ρ:=ρ) (M:=M) hr λj w p d v h1 h2 h3 h4=>by
   have:=hro.2;unfold PE at this;simp only [h1,h2,h3] at this;exact hrd d v this ((hsame d this).trans h4)
  have hrd2: ∀ t v,Mj E wr (Ba ops) i m (.tmp t)=true->fk.t.get t=some v->∃ v',a.tmps[t]? = some v'/\VR ρ M v v':=λt v h1 h2=>by
   unfold Mj at h1;simp only at h1;cases hw:wr.get t with
   | none =>
    have h3:GA wr m (.tmp t)=true:=by unfold GA;simp only [hw]
    exact hrd t v h3 ((hsame t h3).trans h2)
   | some j =>
    simp only [hw,Bool.or_eq_true] at h1;rcases h1 with h1 | h1
    ·have h3:GA wr m (.tmp t)=true:=by unfold GA;simp only [hw];exact h1
     exact hrd t v h3 ((hsame t h3).trans h2)
    ·split at h1
     ·rename_i o' m' hj;simp only [Bool.and_eq_true] at h1;exact I.init t v j o' ((hlate t j o' m' hw hj h1.1).trans h2) hw (Du.1 hj).1 ((Nat.blt_eq).mp h1.2) λhL=>hnL (I.closed j m' i hL (Du.1 hj).2 h1.1)
     ·cases h1
  let ev2:Operand->Option V:=λx=>open Classical in if x∈o.op.operands then fk.ev x else none
  have hev:EV ρ M ev2 a.eval:=λx u hx=>by
   simp only [ev2] at hx;split at hx
   ·rename_i hmem;cases x with
    | tmp t =>
     obtain ⟨v',h1,h2⟩:=hrd2 t u (hro.1 _ hmem) hx;have:a.eval (.tmp t)=v':=by simp [Act.eval,Array.getD_eq_getD_getElem?,h1]
     rw [this];exact h2
    | const c=>exact MX hx
    | global g=>cases hx;exact .gptr g 0
    | func f=>cases hx;exact .fn f [] [] .nil
   ·cases hx
  have hcong: ∀ τ,eOp E call fk.ev o τ=eOp E call ev2 o τ:=λτ=>aA λx hx=>by simp only [ev2,if_pos hx]
  have finish: ∀ (ρ':Ren) (M':Mem) (e':Nat) (σ':St) (w':World) (v':Value),A8 E.P ρ M σ w ρ' M' σ' w'->VR ρ' M' v v'->hist dF e'=some σ'->e'<=dF.t ->
   (∀ j k m':Nat,(BU E (Ba ops) 0)[j]? = some (k,m')->(L (l.setIfInBounds i true) k↔j<e'))->K (a.put o.dst v') w':=λρ' M' e' σ' w' v' s hv hh hle heffs=>by
   refine hK ρ' M' e' σ' _ _ ⟨hh,I.step.trans s,heffs,hle,QW R.hwr ho hil s.g I.tmps I.fr.size hdst hv,PK R.hwr ho hil s.g I.init,λk o' hok hk' hc' hnk=>?_,(I.fr.mono s.g).put_leaf _ _,by simpa using I.size,hclosed,hcount⟩;rw [Fh hil] at hnk;obtain ⟨z1,z2,z3⟩:=I.late k o' hok hk' hc' (λh=>hnk (.inl h));refine ⟨?_,(s.none _ z3 z1).trans z2,Nat.lt_of_lt_of_le z3 s.n⟩;cases hr:ρ' (hb k) with
   | none=>rfl
   | some e0=>obtain ⟨e1,he1⟩:=s.old _ e0 hr z3;rw [z1] at he1;cases he1
  have hsr:=I.step.sr;have hG':GOk E M:=hG.mono I.step.g.mem;have stay:Am E o≠2->∀ j k m':Nat,(BU E (Ba ops) 0)[j]? = some (k,m')->(L (l.setIfInBounds i true) k↔j<e):=λhk2 j k m' hj=>by
   rw [Fh hil,<-I.effs j k m' hj];have:k≠i:=λhki=>by
    obtain ⟨k',o2,h1,h2,h3⟩:=IX hj;rw [Nat.zero_add] at h1;subst h1;subst hki;rw [hom] at h2;cases h2;exact hk2 h3
   simp [this]
  have number: ∀ j,(BU E (Ba ops) 0)[j]? = some (i,m)->j=e:=λj hj=>by
   have h1:¬j<e:=λh=>hnL ((I.effs j i m hj).2 h)
   by_cases h2:j=e
   ·exact h2
   ·exfalso
    have hjl:=(List.getElem?_eq_some_iff.1 hj).1;have hj1: ∃ k1 m1,(BU E (Ba ops) 0)[j - 1]? = some (k1,m1):=by
     have:j - 1<(BU E (Ba ops) 0).length:=by omega
     exact ⟨_,_,List.getElem?_eq_getElem this⟩
    obtain ⟨k1,m1,hk1⟩:=hj1;have hj2:(BU E (Ba ops) 0)[j - 1+1]? = some (i,m):=by
     rw [show j - 1+1=j by omega];exact hj
    have h3:=hmask k1 (Ti R.rows hk1 hj2);have h4:=(I.effs (j - 1) k1 m1 hk1).1 h3;omega
  have go: ∀ j,(BU E (Ba ops) 0)[j]? = some (i,m)->e+1<=dF.t/\∀ j k m':Nat,(BU E (Ba ops) 0)[j]? = some (k,m')->(L (l.setIfInBounds i true) k↔j<e+1):=λj hj=>by
   have hje:=number j hj;subst hje;have hjl:=(List.getElem?_eq_some_iff.1 hj).1;refine ⟨by rw [R.tF];omega,λj' k m' hj'=>?_⟩;rw [Fh hil,I.effs j' k m' hj'];constructor
   ·rintro (h | rfl)
    ·omega
    ·have:=Ol hj' hj;omega
   ·intro h;by_cases hjj:j'=j
    ·subst hjj;rw [hj] at hj';cases hj';exact .inr rfl
    ·exact .inl (by omega)
  cases hdoes with
  | skip hw hk2 =>
   rw [hwant _ hw];simp only [Bool.false_eq_true,if_false];refine ⟨λf _=>hF.1 f,?_⟩;exact finish _ _ e σ w undef (.refl hsr) FC I.hist I.le (stay hk2)
  | skip2 e1 σ2 hw hk2 he hF1 hF2 =>
   rw [hwant _ hw];simp only [Bool.false_eq_true,if_false];refine ⟨λf _=>hF.1 f,?_⟩;have:=number _ he;subst this;have hh:=I.hist;rw [hF1] at hh;cases hh;obtain ⟨g1,g2⟩:=go _ he;exact finish _ _ _ _ w undef (.refl hsr) FC hF2 g1 g2
  | pure _ hw hk0 hp =>
   rw [hwant _ hw];simp only [if_true];have hp:=hp σ;rw [hcong] at hp;exact Ln hF hval hbi hcall hdo hp hsr hG' hev λρ' M' v' w' s hv=>finish _ _ e σ w' v' s hv I.hist I.le (stay (by omega))
  | read _ hw hk1 hp =>
   rw [hwant _ hw];simp only [if_true];have hleast:Ck m (BU E (Ba ops) 0)<=e:=by
    rcases Nat.lt_or_ge e (Ck m (BU E (Ba ops) 0)) with h | h
    ·exfalso
     have hle:=UA (m:=m) (BU E (Ba ops) 0);have hel:e<(BU E (Ba ops) 0).length:=by omega
     obtain ⟨k1,m1,hk1'⟩: ∃ k1 m1,(BU E (Ba ops) 0)[e]? = some (k1,m1):=⟨_,_,List.getElem?_eq_getElem hel⟩
     have:=(I.effs e k1 m1 hk1').1 (hmask k1 (T9 h hk1'));omega
    ·exact h
   have hmost:e<=Co i (BU E (Ba ops) 0):=by
    rcases Nat.lt_or_ge (Co i (BU E (Ba ops) 0)) e with h | h
    ·exfalso
     have hle:=I.le;rw [R.tF] at hle;obtain ⟨k1,m1,h1,h2⟩:=UV (k:=i) (l:=BU E (Ba ops) 0) (by omega);have hL:=(I.effs _ k1 m1 h1).2 h;obtain ⟨k',o2,h3,h4,_⟩:=IX h1;rw [Nat.zero_add] at h3;subst h3;exact hnL (I.closed _ m1 i hL (Du.1 h4).2 h2)
    ·exact h
   obtain ⟨σ2,h1,h2⟩:=hp e hleast hmost I.le;have hh:=I.hist;rw [h1] at hh;cases hh;rw [hcong] at h2;exact Ln hF hval hbi hcall hdo h2 hsr hG' hev λρ' M' v' w' s hv=>finish _ _ e _ w' v' s hv I.hist I.le (stay (by omega))
  | eff _ e1 σ2 σ3 hw hk2 he hF1 hF2 hp =>
   rw [hwant _ hw];simp only [if_true];have:=number _ he;subst this;have hh:=I.hist;rw [hF1] at hh;cases hh;obtain ⟨g1,g2⟩:=go _ he;rw [hcong] at hp;exact Ln hF hval hbi hcall hdo hp hsr hG' hev λρ' M' v' w' s hv=>finish _ _ _ _ w' v' s hv hF2 g1 g2
theorem Tp (R:Reg E call ops σ0 σ1 fr1 hb wr dF) {l:Array Bool} {fuel:Nat} {ρ:Ren} {M:Mem} {e:Nat} {σ:St} {a:Act} {w:World} (I:Inv ms E call ops σ0 σ1 fr1 hb wr dF ρ0 M0 w0 l fuel ρ M e σ a w)
 (hall: ∀ i,i<ops.length->L l i):hist dF dF.t=some σ/\A8 E.P ρ0 M0 σ0 w0 ρ M σ w/\FR ρ M ms dF.fr a:=by
 have he:e=dF.t:=by
  have hle:=I.le;rcases Nat.lt_or_ge e dF.t with h | h
  ·exfalso
   rw [R.tF] at h;obtain ⟨k1,m1,h1⟩: ∃ k1 m1,(BU E (Ba ops) 0)[e]? = some (k1,m1):=⟨_,_,List.getElem?_eq_getElem h⟩
   obtain ⟨k',o2,h3,h4,_⟩:=IX h1;rw [Nat.zero_add] at h3;subst h3;have:=(I.effs e _ m1 h1).1 (hall _ (by
    have:=(List.getElem?_eq_some_iff.1 h4).1
    rwa [xA] at this))
   omega
  ·omega
 subst he;refine ⟨I.hist,I.step,⟨λt v hv=>I.tmps t v hv λi hi=>?_,I.fr.size,I.fr.defers⟩⟩;obtain ⟨_,_,h3⟩:=Gm R.hwr;rcases h3 t i hi with h4 | ⟨k,o,h4,h5,_⟩
 ·rw [PT.get_leaf] at h4;cases h4
 ·rw [Nat.zero_add] at h4;subst h4;exact hall _ (List.getElem?_eq_some_iff.1 h5).1
theorem PB (hF:Wd F) (hdf:F.round=none\/ops.all Ez=true) (hval:FJ E) (hbi:FE E) (hcall:Ew E call) (R:Reg E call ops σ0 σ1 fr1 hb wr dF) (hG:GOk E M0) {md:Region.Mode} (hcov:Nd md ops.toArray)
 (hn: ∀ ρ M σ a w,hist dF dF.t=some σ->A8 E.P ρ0 M0 σ0 w0 ρ M σ w->FR ρ M ms dF.fr a->Q .normal a w): ∀ (fuel t:Nat) (l:Array Bool) (ρ:Ren) (M:Mem) (e:Nat) (σ:St) (a:Act) (w:World),
 Inv ms E call ops σ0 σ1 fr1 hb wr dF ρ0 M0 w0 l fuel ρ M e σ a w->wpOpsIn F n E.P ops.toArray Q (Region.linearise.go md ops.toArray fuel t l []) a w:=by
 intro fuel
 induction fuel with
 | zero =>
  intro t l ρ M e σ a w I;have hall: ∀ i,i<ops.length->L l i:=λi hi=>by
   have hc:=I.count;rw [Nat.add_zero,<-I.size,<-Array.length_toList,List.countP_eq_length] at hc;have hil:i<l.size:=by rw [I.size];exact hi
   have:=hc l[i] (by simp);unfold L;simp only [Array.getD_eq_getD_getElem?,Array.getElem?_eq_getElem hil,Option.getD_some];exact this
  obtain ⟨h1,h2,h3⟩:=Tp R I hall;simp only [Region.linearise.go,List.reverse_nil,wpOpsIn];exact hn _ _ _ _ _ h1 h2 h3
 | succ fuel ih =>
  intro t l ρ M e σ a w I;simp only [Region.linearise.go]
  change wpOpsIn F n E.P ops.toArray Q (match (Region.ready md ops.toArray l)[t % (Region.ready md ops.toArray l).length]? with
   | some i=>Region.linearise.go md ops.toArray fuel (t / (Region.ready md ops.toArray l).length) (l.setIfInBounds i true) [i]
   | none=>[].reverse) a w
  cases hi:(Region.ready md ops.toArray l)[t % (Region.ready md ops.toArray l).length]? with
  | none =>
   have hnil:Region.ready md ops.toArray l=[]:=by
    cases hr:Region.ready md ops.toArray l with
    | nil=>rfl
    | cons x xs =>
     rw [hr] at hi;have hlt:t % (x :: xs).length<(x :: xs).length:=Nat.mod_lt _ (by simp);simp at hi;simp at hlt;omega
   have hall: ∀ i,i<ops.length->L l i:=λi hi=>hcov l (by rw [I.size];simp) hnil i (by simpa using hi)
   obtain ⟨h1,h2,h3⟩:=Tp R I hall;simp only [List.reverse_nil,wpOpsIn];exact hn _ _ _ _ _ h1 h2 h3
  | some i =>
   simp only [];rw [linearise_go_acc,List.reverse_singleton,List.singleton_append,xI];exact eZ hF hdf hval hbi hcall R hG I (List.mem_of_getElem? hi) λρ' M' e' σ' a' w' I'=>ih _ _ _ _ _ _ _ _ I'
theorem SG (hval:FJ E) (hbi:FE E) (hcall:Ew E call):Qz E (Cw E call):=by
 intro F n ρ M ms w ops fr fr' σ σ' a Q hF hdf hok h hsr hg hfr hn t;unfold Cw at h;simp only at h;split at h
 ·rename_i fr1 σ1 hh;split at h
  ·rename_i dF hd;split at h
   ·rename_i σ2 ps hp;cases h;obtain ⟨hb,wr,R,HF,RF⟩:=qU hok hh hd;have I0:Inv ms E call ops σ σ1 fr1 hb wr dF ρ M w (Array.replicate ops.length false) ops.length ρ M 0 σ1 a w:=by
     have hL: ∀ i,¬L (Array.replicate ops.length false) i:=λi=>by
      unfold L;simp only [Array.getD_eq_getD_getElem?,Array.getElem?_replicate]
      split<;>simp
     refine ⟨?_,uK hsr HF.n HF.tch HF.get,λj i m _=>?_,Nat.zero_le _,λt v hv hw=>?_,λt v j o h3 h4 h5 h6 _=>?_,λk o ho hk hkc _=>?_,?_,by simp,λk m i h=>absurd h (hL k),by simp [List.countP_replicate]⟩
     ·rw [RF.hh 0 (Nat.le_refl _)];rfl
     ·exact ⟨λh=>absurd h (hL i),λh=>by omega⟩
     ·obtain ⟨_,h2,_⟩:=Gm R.hwr;have hno: ∀ (k:Nat) (o:Oper),ops[k]? = some o->o.dst≠some t:=λk o ho hd'=>hL _ (hw _ (h2 k o t ho hd'))
      rw [RF.same t (λk o m hk _=>hno k o (Du.1 hk).1)] at hv;have hv:fr1.t.get t=some v:=hv;rw [HF.same t (λk o ho _=>hno k o ho)] at hv;exact hfr.tmps t v hv
     ·obtain ⟨_,h2,_⟩:=Gm R.hwr;rw [HF.same t λk' o' ho' hk' hd'=>?_] at h3
      ·exact hfr.tmps t v h3
      ·have:=h2 k' o' t ho' hd';rw [h4,Nat.zero_add] at this;simp only [Option.some.injEq] at this;subst this;rw [h5] at ho';cases ho';omega
     ·obtain ⟨q1,q2,_⟩:=R.ho k o ho hk hkc;refine ⟨?_,rfl,q2⟩;cases hr:ρ (hb k) with
      | none=>rfl
      | some e=>have:=hsr.bd _ _ hr;omega
     ·have h1:dF.fr.n=fr.n:=RF.nn.trans HF.fn;have h2:dF.fr.d=fr.d:=RF.dd.trans HF.fd;have:=hfr.leaf;rw [h1,h2];exact this
    have hfin: ∀ ρ' M' σ' a' w',hist dF dF.t=some σ'->A8 E.P ρ M σ w ρ' M' σ' w'->FR ρ' M' ms dF.fr a'->Q .normal a' w':=λρ' M' σ3 a' w' h1 h2 h3=>by
     have:σ3=σ':=by
      unfold hist at h1;rw [if_pos (Nat.le_refl _),hp] at h1;simpa using h1.symm
     subst this;exact hn _ _ _ _ h2 h3
    have hok':=hok;unfold Kw at hok';simp only [Bool.and_eq_true,Bool.or_eq_true] at hok';obtain ⟨⟨⟨⟨hedges,_⟩,_⟩,_⟩,hdep⟩:=hok';have hany:=cU hedges;unfold Region.schedule
    split
    ·exact PB hF hdf hval hbi hcall R hg hany hfin _ _ _ _ _ _ _ _ _ (by simpa using I0)
    ·rename_i hnd;simp only [Bool.or_eq_true,not_or] at hnd;have hdep:=hdep.resolve_left λhs=>by rw [Zw hs] at hnd;simp at hnd
     split
     ·exact PB hF hdf hval hbi hcall R hg (TT hdep.1) hfin _ _ _ _ _ _ _ _ _ (by simpa using I0)
     ·exact PB hF hdf hval hbi hcall R hg (TT hdep.2) hfin _ _ _ _ _ _ _ _ _ (by simpa using I0)
   ·cases h
  ·cases h
 ·cases h
end
end SS
