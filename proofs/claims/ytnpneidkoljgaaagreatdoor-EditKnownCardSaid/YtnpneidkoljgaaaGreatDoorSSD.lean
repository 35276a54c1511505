/-
  Operations, regions, code, and that a region that draws its order ends as in the order of the text. No condition.
-/
import Derived.Test.YtnpneidkoljgaaaGreatDoorSSC
import Derived.Defers
import Derived.RangeFuncOwn
import Derived.AtR
import Derived.Orders
namespace SS
open Go

def CallR (P : Program) (f : FuncId) (args : Array Value) (w : World) (R : Value → World → Prop) : Prop :=
  (∃ v w', (callFunc f args).run P w = .ok (.value v) w' ∧ R v w') ∨
  ((callFunc f args).run P w = .ok (.enter f args) w ∧ Calls P f args w fun | .returned v, w' => R v w' | _, _ => False)

def ValOk (E : Env) : Prop := ∀ {ρ : Ren} {M : Mem} {w : World} {ev : Operand → Option V} {ev' : Operand → Value} {o : Oper} {σ σ' : St} {v : V}, aVal E ev o.op σ = some (v, σ') → SR E.P ρ M σ w → GOk E M → EV ρ M ev ev' →
  ∃ v' w' ρ' M', ((execOp ev' o).run E.P w = .ok (.value v') w' ∨ ((execOp ev' o).run E.P w = .ok .skip w' ∧ v' = undef)) ∧ Step E.P ρ M σ w ρ' M' σ' w' ∧ VR ρ' M' v v'

def BuiltinOk (E : Env) : Prop := ∀ {ρ : Ren} {M : Mem} {w : World} {b : Builtin} {ts : Array TypeId} {ty : TypeId} {cb : Array Bool} {vs : List V} {vs' : List Value} {σ σ' : St} {v : V}, builtinV E b ts.toList vs σ = some (v, σ') → SR E.P ρ M σ w → GOk E M → VRL ρ M vs vs' →
  ∃ v' w' ρ' M', (builtin b ts ty cb vs'.toArray).run E.P w = .ok (.value v') w' ∧ Step E.P ρ M σ w ρ' M' σ' w' ∧ VR ρ' M' v v'

def CallOk (E : Env) (call : SS.Call) : Prop := ∀ {ρ : Ren} {M : Mem} {w : World} {f : FuncId} {vs : List V} {vs' : List Value} {σ σ' : St} {v : V}, call f vs σ = some (v, σ') → SR E.P ρ M σ w → GOk E M → VRL ρ M vs vs' →
  CallR E.P f vs'.toArray w fun v' w' => ∃ ρ' M', Step E.P ρ M σ w ρ' M' σ' w' ∧ VR ρ' M' v v'

section
variable {E : Env} {call : SS.Call}

theorem fn_inv {ρ : Ren} {M : Mem} {g : FuncId} {cap : List V} {x : Value} (h : VR ρ M (.fn g cap) x) : ∃ cap', x = .func (.func g) #[] cap' ∧ VRL ρ M cap cap'.toList := by
  cases h with
  | fn _ _ c h => exact ⟨c.toArray, rfl, by simpa using h⟩

theorem FR.push {ρ : Ren} {M : Mem} {ms : List Nat} {fr : Fr} {a : Act} (h : FR ρ M ms fr a) {g : FuncId} {vs : List V} {cap args : Array Value} (hv : VRL ρ M vs (args ++ cap).toList) :
    FR ρ M ms { fr with d := (g, vs) :: fr.d } { a with defers := { target := .fn (.func g) cap, args := args } :: a.defers } :=
  ⟨h.tmps, h.size, .fn _ _ _ _ _ _ _ hv h.defers⟩

/-! ## The frames in which code is walked: all, within a round or not -/
def Wd (F : Fence) : Prop := (∀ f, F.fn f) ∧ F.depth = none ∧ F.alive = false

theorem Wd.fenced {F : Fence} (h : Wd F) (P : Program) (m : Machine) : m.fenced P F := by
  intro g _
  refine ⟨fun e => (by rw [h.2.2] at e; cases e), .inl (h.1 _), fun f _ => h.1 f, fun d hd => ?_⟩
  rw [h.2.1] at hd; cases hd

theorem Wd.room {F : Fence} (h : Wd F) (n : Nat) : F.room n := fun d hd => by rw [h.2.1] at hd; cases hd

theorem Wd.steps {F : Fence} (h : Wd F) {P : Program} {m m' : Machine} (hs : Steps P m m') : StepsIn (Machine.fenced P F) P m m' := (StepsIn.of_steps hs).mono fun m _ => h.fenced P m

theorem Wd.comes {F : Fence} (h : Wd F) {P : Program} {m m' : Machine} {e : Ending} (hs : Comes P m m' e) : ComesIn (Machine.fenced P F) P m m' e := by
  cases e with
  | returned v => exact h.steps hs
  | panicked chain => exact h.steps hs
  | outgrown => exact hs

theorem Wd.calls {F : Fence} (h : Wd F) {n : Nat} {P : Program} {f : FuncId} {args : Array Value} {w : World} {R : Ending → World → Prop} (hc : Calls P f args w R) : CallsIn F n P f args w R :=
  ⟨h.1 f, fun cs _ => let ⟨e, w', fr, r, s, x⟩ := hc cs; ⟨e, w', fr, r, h.comes s, x⟩⟩

theorem Wd.round {F : Fence} (h : Wd F) (l : Nat) : Wd (F.inRound l) := h
theorem Wd.dep {F : Fence} (h : Wd F) {n : Nat} : F.depth.isSome = true → 1 ≤ n := fun e => by rw [h.2.1] at e; cases e
theorem wd_wide : Wd Fence.wide := ⟨fun _ => trivial, rfl, rfl⟩

theorem sem_calm {F : Fence} {o : Oper} (h : F.round = none ∨ calmO o = true) (ρ : Operand → Value) : o.semAt F.round ρ = execOp ρ o := by
  rcases h with h | h
  · rw [h]; rfl
  · refine Oper.semAt_eq _ _ _ fun c hc => ?_
    simp [calmO, hc] at h

theorem wpIn_of_upon {F : Fence} (hF : Wd F) {n : Nat} {P : Program} {o : Oper} (hd : F.round = none ∨ calmO o = true) {a : Act} {w : World} {next : Act → World → Prop} {Q : Exit → Act → World → Prop}
    (h : o.uponIn F n P a next Q ((execOp a.eval o).run P w)) : o.wpIn F n P a w next Q := ⟨fun f _ => hF.1 f, by rw [sem_calm hd]; exact h⟩

/-- The blocks of the marks. -/
structure Marks (B : Nat) (ρ : Ren) (M : Mem) (w : World) (ms : List Nat) : Prop where
  nodup : ms.Nodup
  at_ : ∀ D ∈ ms, B ≤ D ∧ w.heap[D]? = some (.deferred (some [])) ∧ (∀ b e, ρ b = some e → e.x ≠ D) ∧ M D = none

theorem Marks.nil (B : Nat) (ρ : Ren) (M : Mem) (w : World) : Marks B ρ M w [] := ⟨List.nodup_nil, fun _ h => by cases h⟩

theorem Marks.step {P : Program} {B : Nat} {ρ ρ' : Ren} {M M' : Mem} {σ σ' : St} {w w' : World} {ms : List Nat} (h : Marks B ρ M w ms) (s : Step P ρ M σ w ρ' M' σ' w') : Marks B ρ' M' w' ms := by
  refine ⟨h.nodup, fun D hD => ?_⟩
  obtain ⟨h1, h2, h3, h4⟩ := h.at_ D hD
  have hlt : D < w.heap.size := (Array.getElem?_eq_some_iff.1 h2).1
  refine ⟨h1, (s.frame D hlt h3).trans h2, fun b e he hx => ?_, ?_⟩
  · rcases s.fresh b e he with ⟨b0, e0, h5, h6⟩ | h5
    · exact h3 b0 e0 h5 (h6.trans hx)
    · omega
  · cases hm : M' D with
    | none => rfl
    | some o =>
      rcases s.freshM D o hm with h5 | h5
      · rw [h4] at h5; cases h5
      · omega

theorem aOper_sound {F : Fence} {n : Nat} (hF : Wd F) (hval : ValOk E) (hbi : BuiltinOk E) (hcall : CallOk E call) {ρ : Ren} {M : Mem} {ms : List Nat} {w : World} {o : Oper} {fr fr' : Fr} {σ σ' : St} {a : Act} {next : Act → World → Prop} {Q : Exit → Act → World → Prop}
    (hd : F.round = none ∨ calmO o = true) (h : aOper E call o fr σ = some (fr', σ')) (hsr : SR E.P ρ M σ w) (hg : GOk E M) (hfr : FR ρ M ms fr a)
    (hn : ∀ ρ' M' a' w', Step E.P ρ M σ w ρ' M' σ' w' → FR ρ' M' ms fr' a' → next a' w') : o.wpIn F n E.P a w next Q := by
  have hev : EV ρ M fr.ev a.eval := fun x v hx => hfr.ev hx
  unfold aOper at h
  split at h
  · rename_i c ho
    split at h
    · rename_i vs hvs
      have hvs' := evs_sound hev hvs
      dsimp only at h
      split at h
      · rename_i v σ1 hr
        split at h
        · rename_i fr1 hp
          cases h
          apply wpIn_of_upon hF hd
          split at hr
          · rename_i b hc
            obtain ⟨v', w', ρ', M', h1, h2, h3⟩ := hbi (ty := o.type) (cb := (c.args.map fun | .const _ => true | _ => false)) hr hsr hg hvs'
            have hrun : (execOp a.eval o).run E.P w = .ok (.value v') w' := by
              simp only [execOp, ho, resolve, hc, Sem.run_bind, Sem.run_pure, Result.andThen_ok, invoke]
              rw [← h1]; congr 2
              apply Array.ext'; simp
            rw [hrun]
            exact hn _ _ _ _ h2 ((hfr.mono h2.g).put hp h3)
          · rename_i f hc
            split at hr
            · rename_i g cap hf
              obtain ⟨cap', hx, hcap⟩ := fn_inv (hfr.ev hf)
              have hrun : (execOp a.eval o).run E.P w = (callFunc g (c.args.map a.eval ++ cap')).run E.P w := by
                simp only [execOp, ho, resolve, hc, hx, Deferred.ofValue, Sem.run_bind, Sem.run_pure, Result.andThen_ok, invoke, Array.empty_append]
              have hargs : (c.args.map a.eval ++ cap') = (c.args.toList.map a.eval ++ cap'.toList).toArray := by apply Array.ext'; simp
              rw [hrun, hargs]
              rcases hcall hr hsr hg (hvs'.append hcap) with ⟨v', w', h1, ρ', M', h2, h3⟩ | ⟨h1, h2⟩
              · rw [h1]
                exact hn _ _ _ _ h2 ((hfr.mono h2.g).put hp h3)
              · rw [h1]
                refine ⟨hF.dep, CallsIn.mono (hF.calls h2) fun e w' he => ?_⟩
                cases e with
                | returned v' =>
                  obtain ⟨ρ', M', h2, h3⟩ := he
                  exact hn _ _ _ _ h2 ((hfr.mono h2.g).put hp h3)
                | panicked _ => exact he.elim
                | outgrown => exact he.elim
            · cases hr
          · cases hr
        · cases h
      · cases h
    · cases h
  · rename_i c ho
    split at h
    · rename_i f vs hc hvs
      split at h
      · rename_i g cap hf
        split at h
        · rename_i fr1 hp
          cases h
          obtain ⟨cap', hx, hcap⟩ := fn_inv (hfr.ev hf)
          have hvs' := evs_sound hev hvs
          apply wpIn_of_upon hF hd
          have hrun : (execOp a.eval o).run E.P w = .ok (.defer { target := .fn (.func g) cap', args := c.args.map a.eval }) w := by
            simp only [execOp, ho, resolve, hc, hx, Deferred.ofValue, Sem.run_bind, Sem.run_pure, Result.andThen_ok, Array.empty_append]
          rw [hrun]
          refine hn _ _ _ _ (.refl hsr) (FR.put (hfr.push ?_) hp undef_rel)
          have := hvs'.append hcap
          simpa using this
        · cases h
      · cases h
    · cases h
  · split at h
    · rename_i v σ1 hr
      split at h
      · rename_i fr1 hp
        cases h
        obtain ⟨v', w', ρ', M', h1, h2, h3⟩ := hval hr hsr hg hev
        apply wpIn_of_upon hF hd
        rcases h1 with h1 | ⟨h1, rfl⟩
        · rw [h1]; exact hn _ _ _ _ h2 ((hfr.mono h2.g).put hp h3)
        · rw [h1]; exact hn _ _ _ _ h2 ((hfr.mono h2.g).put hp h3)
      · cases h
    · cases h

theorem wants_sound {ρ : Ren} {M : Mem} {ms : List Nat} {ops : List Oper} {o : Oper} {fr : Fr} {a : Act} {r : Bool} (h : wants ops o fr = some r) (hfr : FR ρ M ms fr a) : Region.wanted o (yielded ops.toArray a.tmps) = r := by
  unfold wants at h
  unfold Region.wanted
  split at h
  · rename_i hg; rw [hg]; cases h; rfl
  · rename_i j want hg
    rw [hg]
    split at h
    · rename_i p hp
      split at h
      · rename_i d hd
        split at h
        · rename_i b hb
          cases h
          obtain ⟨v', h1, h2⟩ := hfr.tmps _ _ hb
          cases h2
          have : yielded ops.toArray a.tmps j = some b := by simp [yielded, hp, hd, h1]
          simp only [this]
          cases b <;> cases want <;> rfl
        · rename_i hb
          cases h
          obtain ⟨v', h1, h2⟩ := hfr.tmps _ _ hb
          cases h2
          have : yielded ops.toArray a.tmps j = none := by simp [yielded, hp, hd, h1]
          simp only [this]
          cases want <;> rfl
        · cases h
      · cases h
    · cases h

/-- One operation of a region. -/
theorem aStep_sound {F : Fence} {n : Nat} (hF : Wd F) (hval : ValOk E) (hbi : BuiltinOk E) (hcall : CallOk E call) {ρ : Ren} {M : Mem} {ms : List Nat} {w : World} {ops : List Oper} {i : Nat} {rest : List Nat} {o : Oper} {fr fr' : Fr} {σ σ' : St} {a : Act} {Q : Exit → Act → World → Prop}
    (hd : F.round = none ∨ calmO o = true) (ho : ops[i]? = some o) (h : aStep E call ops o fr σ = some (fr', σ')) (hsr : SR E.P ρ M σ w) (hg : GOk E M) (hfr : FR ρ M ms fr a)
    (hn : ∀ ρ' M' a' w', Step E.P ρ M σ w ρ' M' σ' w' → FR ρ' M' ms fr' a' → wpOpsIn F n E.P ops.toArray Q rest a' w') : wpOpsIn F n E.P ops.toArray Q (i :: rest) a w := by
  unfold aStep at h
  have ho' : ops.toArray[i]? = some o := by simpa using ho
  split at h
  · rename_i hw
    simp only [wpOpsIn, ho', wants_sound hw hfr, if_true]
    exact aOper_sound hF hval hbi hcall hd h hsr hg hfr hn
  · rename_i hw
    split at h
    · rename_i fr1 hp
      cases h
      simp only [wpOpsIn, ho', wants_sound hw hfr, Bool.false_eq_true, if_false]
      exact ⟨fun f _ => hF.1 f, hn _ _ _ _ (.refl hsr) (hfr.put hp undef_rel)⟩
    · cases h
  · cases h

theorem aOps_sound {F : Fence} {n : Nat} (hF : Wd F) (hval : ValOk E) (hbi : BuiltinOk E) (hcall : CallOk E call) {ms : List Nat} {ops : List Oper} (hd : F.round = none ∨ ops.all calmO = true) {Q : Exit → Act → World → Prop} {fr' : Fr} {σ' : St} : ∀ (rest : List Oper) (i : Nat) {ρ : Ren} {M : Mem} {w : World} {fr : Fr} {σ : St} {a : Act},
    ops.drop i = rest → aOps E call ops rest fr σ = some (fr', σ') → SR E.P ρ M σ w → GOk E M → FR ρ M ms fr a →
    (∀ ρ' M' a' w', Step E.P ρ M σ w ρ' M' σ' w' → FR ρ' M' ms fr' a' → Q .normal a' w') → wpOpsIn F n E.P ops.toArray Q (List.range' i rest.length) a w := by
  intro rest
  induction rest with
  | nil =>
    intro i ρ M w fr σ a _ h hsr hg hfr hn
    cases h
    exact hn _ _ _ _ (.refl hsr) hfr
  | cons o rest ih =>
    intro i ρ M w fr σ a hdr h hsr hg hfr hn
    unfold aOps at h
    split at h
    · rename_i fr1 σ1 h1
      have ho : ops[i]? = some o := by
        have : (ops.drop i)[0]? = some o := by rw [hdr]; rfl
        simpa using this
      have hd' : ops.drop (i + 1) = rest := by
        have : (ops.drop i).drop 1 = rest := by rw [hdr]; rfl
        rw [List.drop_drop] at this
        exact this
      rw [List.length_cons, List.range'_succ]
      refine aStep_sound hF hval hbi hcall (hd.imp id fun hc => List.all_eq_true.1 hc o (List.mem_of_getElem? ho)) ho h1 hsr hg hfr fun ρ' M' a' w' hs hf => ?_
      exact ih (i + 1) hd' h hs.sr (hg.mono hs.g.mem) hf fun ρ'' M'' a'' w'' hs' hf' => hn _ _ _ _ (hs.trans hs') hf'
    · cases h

def DrawOk (E : Env) (draw : List Oper → Fr → St → Option (Fr × St)) : Prop := ∀ {F : Fence} {n : Nat} {ρ : Ren} {M : Mem} {ms : List Nat} {w : World} {ops : List Oper} {fr fr' : Fr} {σ σ' : St} {a : Act} {Q : Exit → Act → World → Prop}, Wd F → (F.round = none ∨ ops.all calmO = true) → regionOk E ops = true → draw ops fr σ = some (fr', σ') → SR E.P ρ M σ w → GOk E M → FR ρ M ms fr a →
  (∀ ρ' M' a' w', Step E.P ρ M σ w ρ' M' σ' w' → FR ρ' M' ms fr' a' → Q .normal a' w') → ∀ t, wpOpsIn F n E.P ops.toArray Q (Region.schedule (E.P.follows .mixedOrders) ops.toArray t) a w

def AEx.out : AEx → Exit
  | .norm => .normal
  | .exit id => .exit id
  | .ret => .ret

/-- A piece of code, and what it does. -/
def RunOk (E : Env) (c : Code) (f : Run) : Prop := ∀ {F : Fence} {n : Nat} {ρ : Ren} {M : Mem} {B : Nat} {ms : List Nat} {w : World} {fr fr' : Fr} {σ σ' : St} {a : Act} {x : AEx} {Q : Exit → Act → World → Prop}, Wd F → (F.round = none ∨ calmC c = true) → f fr σ = some (x, fr', σ') → SR E.P ρ M σ w → GOk E M →
  Marks B ρ M w ms → B ≤ w.heap.size → FR ρ M ms fr a →
  (∀ ρ' M' a' w' ms', Step E.P ρ M σ w ρ' M' σ' w' → Marks B ρ' M' w' ms' → (calmC c = true → ms' = ms) → FR ρ' M' ms' fr' a' → Q x.out a' w') → c.wpIn F n E.P Q a w

theorem loop_sound {F : Fence} {m : Nat} (hF : Wd F) {c : Code} {f : Run} (hc : RunOk E c f) (hd : F.round = none ∨ calmC c = true) : ∀ (n : Nat) {ρ : Ren} {M : Mem} {B : Nat} {ms : List Nat} {w : World} {fr fr' : Fr} {σ σ' : St} {a : Act} {x : AEx} {Q : Exit → Act → World → Prop}, aLoop f n fr σ = some (x, fr', σ') → SR E.P ρ M σ w → GOk E M →
    Marks B ρ M w ms → B ≤ w.heap.size → FR ρ M ms fr a →
    (∀ ρ' M' a' w' ms', Step E.P ρ M σ w ρ' M' σ' w' → Marks B ρ' M' w' ms' → (calmC c = true → ms' = ms) → FR ρ' M' ms' fr' a' → Q x.out a' w') → ∀ (b : Frame) (k : List Item) (cs : List Frame), b.roundOf = F.round →
    ∃ e a' w', Q e a' w' ∧ ArrivesIn (Machine.fenced E.P F) E.P (lone (b.atR a (.code c :: .inLoop c :: k)) cs w) b k cs e a' w' := by
  intro n
  induction n with
  | zero => intro ρ M B ms w fr fr' σ σ' a x Q h; cases h
  | succ n ih =>
    intro ρ M B ms w fr fr' σ σ' a x Q h hsr hg hm hB hfr hn b k cs hro
    unfold aLoop at h
    split at h
    · rename_i fr1 σ1 h1
      obtain ⟨e, a1, w1, hq, harr⟩ := hc (n := m) (Q := fun e a1 w1 => e = .normal ∧ ∃ ρ1 M1 ms1, Step E.P ρ M σ w ρ1 M1 σ1 w1 ∧ Marks B ρ1 M1 w1 ms1 ∧ (calmC c = true → ms1 = ms) ∧ FR ρ1 M1 ms1 fr1 a1) hF hd h1 hsr hg hm hB hfr (fun ρ' M' a' w' ms' hs h2 h3 hf => ⟨rfl, ρ', M', ms', hs, h2, h3, hf⟩) b (.inLoop c :: k) cs hro (hF.1 _) (hF.room _)
      obtain ⟨rfl, ρ1, M1, ms1, hs, h2, h3, hf⟩ := hq
      obtain ⟨e2, a2, w2, hq2, harr2⟩ := ih h hs.sr (hg.mono hs.g.mem) h2 (Nat.le_trans hB hs.size) hf (fun ρ'' M'' a'' w'' ms'' hs' h4 h5 hf' => hn _ _ _ _ _ (hs.trans hs') h4 (fun hc => (h5 hc).trans (h3 hc)) hf') b k cs hro
      exact ⟨e2, a2, w2, hq2, .of_steps (StepsIn.trans harr (.one (hF.fenced _ _) stepR_inLoop)) harr2⟩
    · rename_i hne
      obtain ⟨e, a1, w1, hq, harr⟩ := hc (n := m) (Q := fun e a1 w1 => e = x.out ∧ Q e a1 w1) hF hd h hsr hg hm hB hfr (fun ρ' M' a' w' ms' hs h2 h3 hf => ⟨rfl, hn _ _ _ _ _ hs h2 h3 hf⟩) b (.inLoop c :: k) cs hro (hF.1 _) (hF.room _)
      obtain ⟨rfl, hq⟩ := hq
      refine ⟨_, a1, w1, hq, .pass (x := .inLoop c) rfl (fun _ _ => .inl ?_) harr⟩
      cases x with
      | norm => exact absurd h (hne _ _)
      | exit id => simp [AEx.out]
      | ret => simp [AEx.out]
end
end SS

namespace SS
open Go

/-- The iterator of slices.Backward at []int: yield is called with each index and its element, the last one first. -/
def BackOk (P : Program) (f : FuncId) : Prop := (∀ args w, (callFunc f args).run P w = .ok (.enter f args) w) ∧ ∀ (l : Nat) (p : Addr) (n : Nat) (J : Nat → World → Prop) (W : World), n < 4294967296 →
  (∀ k W, J k W → J k { W with drawn := W.drawn + 1 }) →
  (∃ a cap, W.cell? p = some (.slice a n cap)) →
  (∀ k W, J (k + 1) W → k < n → ∃ b off n' cap κ x, W.cell? p = some (.slice (some ⟨b, off, none⟩) n' cap) ∧ k < n' ∧ n' ≤ cap ∧ W.cell? ⟨b, off + k, none⟩ = some (.int κ x) ∧
    YieldAt Fence.wide 0 P l #[.int .i64 k, .int κ x] W fun e W' => e = .returned (.bool true) ∧ J k W') →
  J n W → CallsIn Fence.wide 0 P f #[.func (.yield l) #[] #[], .pointer (some p)] W fun e W' => (∃ v, e = .returned v) ∧ J 0 W'

section
variable {E : Env} {ρ : Ren} {M : Mem} {σ : St} {w : World}

theorem cellAt_sound {p v : V} {p' : Value} (h : cellAt σ p = some v) (hsr : SR E.P ρ M σ w) (hp : VR ρ M p p') : ∃ a v', p' = .pointer (some a) ∧ w.cell? a = some v' ∧ VR ρ M v v' := by
  unfold cellAt at h
  split at h
  · rename_i b ver off
    split at h
    · rename_i cs ty ver' fz hb
      split at h
      · rename_i hver
        have hver := Nat.eq_of_beq_eq_true hver
        obtain ⟨e, he, ⟨h1, _⟩ | ⟨h1, rfl⟩⟩ := hp.ptr_inv
        · exact absurd (fits_blk hsr he hb).1 (by omega)
        · obtain ⟨_, _, _, cs', fr, hh, hsz, hle, hv, _⟩ := fits_blk hsr he hb
          have hr := (row_of_block hh e.s).take cs.length
          obtain ⟨v', h2, h3⟩ := hv.get h
          exact ⟨_, v', rfl, hr off v' h2, h3⟩
      · cases h
    · cases h
  · cases h

theorem intOnly_some {o : Option V} {x : V} (h : intOnly o = some x) : ∃ κ z, x = .int κ z ∧ o = some (.int κ z) := by
  cases o with
  | none => cases h
  | some v =>
    cases v <;> first | (cases h; done) | skip
    cases h; exact ⟨_, _, rfl, rfl⟩

/-- A slice's length. -/
theorem backLen_sound {h : V} {v' : Value} {n : Nat} (hn : backLen h = some n) (hv : VR ρ M h v') : ∃ a cap, v' = .slice a n cap := by
  cases h <;> first | (cases hn; done) | skip
  all_goals
    cases hn
    cases hv <;> exact ⟨_, _, rfl⟩

theorem ent_of_lt {cs : List V} {o : Nat} {x : V} (h : cs[o]? = some x) : o < cs.length := (List.getElem?_eq_some_iff.1 h).1

theorem backAt_sound {h : V} {v' : Value} {k : Nat} {x : V} (hx : backAt σ h k = some x) (hsr : SR E.P ρ M σ w) (hv : VR ρ M h v') :
    ∃ b off n' cap κ z, v' = .slice (some ⟨b, off, none⟩) n' cap ∧ k < n' ∧ n' ≤ cap ∧ w.cell? ⟨b, off + k, none⟩ = some (.int κ z) ∧ x = .int κ z := by
  unfold backAt at hx
  split at hx
  · rename_i xs full
    obtain ⟨κ, z, rfl, hk⟩ := intOnly_some hx
    cases hv with
    | lst0 => simp at hk
    | lst y ys _ b o cap cs t fr h1 h2 h3 h4 =>
      have hr := row_of_block (hsr.mem _ _ h1) o
      obtain ⟨a1, b1, e1, e2, e3⟩ := h2.elem hk
      refine ⟨b, o, _, cap, κ, z, rfl, ent_of_lt hk, h3, ?_, rfl⟩
      have e3' : y.cells.length = 1 := e3.symm
      rw [e3', Nat.mul_one] at e1
      have e4 : ∃ t', a1 = .int κ z :: t' := by
        have : (V.int κ z).cells = [.int κ z] := rfl
        rw [this] at e2
        cases e2 with
        | cons _ _ _ _ q _ => cases q; exact ⟨_, rfl⟩
      obtain ⟨t', rfl⟩ := e4
      refine hr k _ ?_
      have := congrArg (fun l => l[0]?) e1
      simpa using this
  · rename_i b ver off len cap0
    split at hx
    · rename_i hlt
      have hlt := (Nat.blt_eq).mp hlt
      split at hx
      · rename_i cs ty ver' fz hb
        split at hx
        · rename_i hver
          have hver := Nat.eq_of_beq_eq_true hver
          obtain ⟨κ, z, rfl, hk⟩ := intOnly_some hx
          obtain ⟨e, he, hh⟩ := hv.ref_inv
          have hf := fits_blk hsr he hb
          have hcell : e.ver = ver' → w.cell? ⟨e.x, e.s + off + k, none⟩ = some (.int κ z) := fun _ => by
            obtain ⟨_, _, _, cs', fr, hh, hsz, hle, hv, _⟩ := hf
            have hr := (row_of_block hh e.s).take cs.length
            obtain ⟨u, h2, h3⟩ := hv.get hk
            cases h3
            have := hr (off + k) _ h2
            rw [Nat.add_assoc]; exact this
          rcases hh with ⟨h1, _⟩ | ⟨h1, c, hc, h2, rfl⟩ | ⟨h1, _, cap', h2, _, rfl⟩ | ⟨_, _, h1, _⟩
          · exact absurd hf.1 (by omega)
          · exact ⟨_, _, _, _, κ, z, rfl, hlt, h2, hcell (by omega), rfl⟩
          · exact ⟨_, _, _, _, κ, z, rfl, hlt, h2, hcell (by omega), rfl⟩
          · omega
        · cases hx
      · cases hx
    · cases hx
  · cases hx

/-- A block beside all that is known. -/
theorem step_beside (hsr : SR E.P ρ M σ w) (o : Obj) : Step E.P ρ M σ w ρ M σ (w.alloc o) := by
  have hh : ∀ x, x < w.heap.size → (w.alloc o).heap[x]? = w.heap[x]? := fun x hx => RowKit.Below.heap_alloc w o x hx
  have hM : ∀ x o', M x = some o' → x < w.heap.size := fun x o' hm => (Array.getElem?_eq_some_iff.1 (hsr.mem x o' hm)).1
  exact ⟨⟨fun b e he => (hsr.fits b e he).mono (.refl _ _) (hh _ (hsr.lt he)), hsr.bd, hsr.inj, fun x o' hm => (hh x (hM x o' hm)).trans (hsr.mem x o' hm), hsr.disj⟩, .refl _ _, fun x hx _ => hh x hx, by simp,
    fun b e h => .inl ⟨b, e, h, rfl⟩, fun _ e h _ => ⟨e, h⟩, fun _ _ h => .inl h, rfl, rfl, rfl, Nat.le_refl _, Nat.le_refl _, fun _ _ _ => rfl, fun _ _ _ => rfl, fun b e h _ => ⟨h, hh _ (hsr.lt h)⟩⟩

/-- A block that is beside all that is known, and younger than the start, is turned. -/
theorem step_turn {ρ' : Ren} {M' : Mem} {σ' : St} {w' : World} (hsr : SR E.P ρ M σ w) (s : Step E.P ρ M σ w ρ' M' σ' w') {x : Nat} (o : Obj) (hx : w.heap.size ≤ x) (h1 : ∀ b e, ρ' b = some e → e.x ≠ x) (h2 : M' x = none) : Step E.P ρ M σ w ρ' M' σ' (w'.putObj x o) := by
  have hh : ∀ y, y ≠ x → (w'.putObj x o).heap[y]? = w'.heap[y]? := fun y hy => World.putObj_heap_other hy
  exact ⟨⟨fun b e he => (s.sr.fits b e he).mono (.refl _ _) (hh _ (h1 b e he)), s.sr.bd, s.sr.inj, fun y o' hm => (hh y (fun e => by subst e; rw [h2] at hm; cases hm)).trans (s.sr.mem y o' hm), s.sr.disj⟩, s.g,
    fun y hy hn => (hh y (by omega)).trans (s.frame y hy hn), by rw [World.putObj_size]; exact s.size, s.fresh, s.old, s.freshM, s.os, s.tape, s.output, s.n, s.tch, s.keep, s.none, fun b e he hb => by
      obtain ⟨q1, q2⟩ := s.held b e he hb
      exact ⟨q1, (hh _ (by have := hsr.lt he; omega)).trans q2⟩⟩

/-- A block that lies beside all that is known. -/
structure Aside (ρ : Ren) (M : Mem) (w : World) (x : Nat) (o : Obj) : Prop where
  at_ : w.heap[x]? = some o
  ren : ∀ b e, ρ b = some e → e.x ≠ x
  mem : M x = none

theorem Aside.step {ρ' : Ren} {M' : Mem} {σ' : St} {w' : World} {x : Nat} {o : Obj} (h : Aside ρ M w x o) (s : Step E.P ρ M σ w ρ' M' σ' w') : Aside ρ' M' w' x o := by
  have hlt : x < w.heap.size := (Array.getElem?_eq_some_iff.1 h.at_).1
  refine ⟨(s.frame x hlt h.ren).trans h.at_, fun b e he hx => ?_, ?_⟩
  · rcases s.fresh b e he with ⟨b0, e0, h5, h6⟩ | h5
    · exact h.ren b0 e0 h5 (h6.trans hx)
    · omega
  · cases hm : M' x with
    | none => rfl
    | some o =>
      rcases s.freshM x o hm with h5 | h5
      · rw [h.mem] at h5; cases h5
      · omega

theorem Aside.put {x y : Nat} {o o' : Obj} (h : Aside ρ M w x o) (hy : x ≠ y) : Aside ρ M (w.putObj y o') x o := ⟨(World.putObj_heap_other hy).trans h.at_, h.ren, h.mem⟩
theorem Aside.turn {x : Nat} {o o' : Obj} (h : Aside ρ M w x o) : Aside ρ M (w.putObj x o') x o' := ⟨World.putObj_heap_same (Array.getElem?_eq_some_iff.1 h.at_).1, h.ren, h.mem⟩

theorem aside_new (hsr : SR E.P ρ M σ w) (o : Obj) : Aside ρ M (w.alloc o) w.heap.size o := by
  refine ⟨World.alloc_heap_new w o, fun b e he => ?_, ?_⟩
  · have := hsr.lt he; omega
  · cases hm : M w.heap.size with
    | none => rfl
    | some o' => have := (Array.getElem?_eq_some_iff.1 (hsr.mem _ _ hm)).1; omega

theorem Marks.aside {B : Nat} {ms : List Nat} (h : Marks B ρ M w ms) {D : Nat} (hD : D ∈ ms) : Aside ρ M w D (.deferred (some [])) := let ⟨_, h2, h3, h4⟩ := h.at_ D hD; ⟨h2, h3, h4⟩

theorem range_sound {ga gb : Run} {assign body : Code} (ha : RunOk E assign ga) (hb : RunOk E body gb) (hca : calmC assign = true) (hcb : calmC body = true) {F : Fence} {n : Nat} (hF : Wd F) (hro : F.round = none)
    {B : Nat} {ms : List Nat} {fr fr' : Fr} {σ' : St} {a : Act} {x : AEx} {Q : Exit → Act → World → Prop} {g : Operand} {ps : Array Tmp} {f : FuncId} (hf : E.back f = true → BackOk E.P f) {gp : V} (hgv : fr.ev g = some (.fn f [gp]))
    (h : aRange E true ga gb (some (.fn f [gp])) ps.toList fr σ = some (x, fr', σ')) (hsr : SR E.P ρ M σ w) (hg : GOk E M) (hm : Marks B ρ M w ms) (hB : B ≤ w.heap.size) (hfr : FR ρ M ms fr a)
    (hn : ∀ ρ' M' a' w' ms', Step E.P ρ M σ w ρ' M' σ' w' → Marks B ρ' M' w' ms' → FR ρ' M' ms' fr' a' → Q x.out a' w') : (Code.rangeFunc g ps assign body).wpIn F n E.P Q a w := by
  unfold aRange at h
  simp only [Bool.and_true] at h
  split at h
  · rename_i hback
    split at h
    · rename_i hd hcell
      split at h
      · rename_i n0 hlen
        split at h
        rotate_left 1
        · cases h
        rename_i hsmall
        have hsmall := (Nat.blt_eq).mp hsmall
        split at h
        · rename_i σ1 hrun
          cases h
          obtain ⟨cap', hx, hcap⟩ := fn_inv (hfr.ev hgv)
          obtain ⟨p', rfl⟩ : ∃ p', cap' = #[p'] := by
            have h1 := hcap.length
            obtain ⟨l⟩ := cap'
            match l, h1 with
            | [p'], _ => exact ⟨p', rfl⟩
          have hp' : VR ρ M gp p' := by
            cases hcap with | cons _ _ _ _ h1 _ => exact h1
          obtain ⟨ad, v', rfl, hc1, hc2⟩ := cellAt_sound hcell hsr hp'
          obtain ⟨ha0, cap0, rfl⟩ := backLen_sound hlen hc2
          refine wpIn_rangeFunc ?_
          intro fn hfn
          rw [hro]
          obtain ⟨rec, hrec⟩ : ∃ rec : LoopState → Option Code → Loop, rec = fun st pe => { state := st, pending := pe, fn, tmps := a.tmps, params := ps, assign, body, defers := w.heap.size } := ⟨_, rfl⟩
          obtain ⟨L, hL⟩ : ∃ L, L = w.heap.size + 1 := ⟨_, rfl⟩
          have s1 : Step E.P ρ M σ w ρ M σ ((w.alloc (.deferred (some []))).alloc (.loop (rec .ready none))) := by
            have := step_beside hsr (.deferred (some []))
            exact this.trans (step_beside this.sr _)
          have D1 : Aside ρ M ((w.alloc (.deferred (some []))).alloc (.loop (rec .ready none))) w.heap.size (.deferred (some [])) := by
            have := aside_new hsr (.deferred (some []))
            exact this.step (step_beside (step_beside hsr _).sr _)
          have L1 : Aside ρ M ((w.alloc (.deferred (some []))).alloc (.loop (rec .ready none))) L (.loop (rec .ready none)) := by
            have := aside_new (step_beside hsr (.deferred (some []))).sr (.loop (rec .ready none))
            rw [World.size_alloc] at this
            rw [hL]; exact this
          generalize hW1 : ((w.alloc (.deferred (some []))).alloc (.loop (rec .ready none))) = W1 at s1 D1 L1
          have hDL : w.heap.size ≠ L := by omega
          refine ⟨L, [{ target := .collected w.heap.size, args := #[] }], W1, { target := .fn (.func f) #[.pointer (some ad)], args := #[.func (.yield L) #[] #[]] }, W1, f,
            #[.func (.yield L) #[] #[]] ++ #[.pointer (some ad)], W1, ?_, ?_, ?_, ?_, hF.dep, ?_⟩
          · subst hrec hL; rw [← hW1]; exact run_enterLoop_outer _ _ _ _ _
          · simp only [resolve, hx]
            simp [go_sem]
          · intro f' _; exact hF.1 f'
          · simp [invoke, go_sem, (hf hback).1]
          · refine hF.calls (callsIn_wide.1 (CallsIn.mono ((hf hback).2 L ad n0 (fun k W => ∃ ρ' M' σ2, Step E.P ρ M σ w ρ' M' σ2 W ∧ aBack (aRound ga gb fr ps.toList) gp k σ2 = some σ' ∧ Aside ρ' M' W w.heap.size (.deferred (some [])) ∧ Aside ρ' M' W L (.loop (rec .ready none))) W1 hsmall ?_ ?_ ?_ ?_) ?_))
            · rintro k W ⟨ρ', M', σ2, s, h1, h2, h3⟩
              have s0 : Step E.P ρ' M' σ2 W ρ' M' σ2 { W with drawn := W.drawn + 1 } := step_same s.sr rfl rfl rfl rfl
              exact ⟨ρ', M', σ2, s.trans s0, h1, h2.step s0, h3.step s0⟩
            · obtain ⟨ad2, v2, e1, e2, e3⟩ := cellAt_sound hcell s1.sr hp'
              cases e1
              obtain ⟨b2, c2, rfl⟩ := backLen_sound hlen e3
              exact ⟨_, _, e2⟩
            · rintro k W ⟨ρ', M', σ2, s, h1, h2, h3⟩ hk
              unfold aBack at h1
              split at h1
              · rename_i hd2 hcell2
                split at h1
                · rename_i x2 hx2
                  split at h1
                  · rename_i σ3 hrd
                    obtain ⟨ad2, v2, e1, e2, e3⟩ := cellAt_sound hcell2 s.sr (hp'.mono s.g)
                    cases e1
                    obtain ⟨b, off, n', cap2, κ, z, rfl, e4, e5, e6, rfl⟩ := backAt_sound hx2 s.sr e3
                    refine ⟨b, off, n', cap2, κ, z, e2, e4, e5, e6, ?_⟩
                    unfold aRound at hrd
                    split at hrd
                    rotate_left 1
                    · cases hrd
                    rename_i f1 hf1
                    unfold roundFr at hf1
                    split at hf1
                    rotate_left 1
                    · cases hf1
                    rename_i p1 p2 hps
                    split at hf1
                    rotate_left 1
                    · cases hf1
                    rename_i f0 hf0
                    have hps' : ps = #[p1, p2] := by obtain ⟨l⟩ := ps; simp at hps; rw [hps]
                    have hfr0 : FR ρ' M' [] { fr with d := [] } { tmps := a.tmps, defers := [] } := ⟨(hfr.mono s.g).tmps, hfr.size, .nil⟩
                    have hfr1 : FR ρ' M' [] f1 { tmps := (a.tmps.setIfInBounds p1 (.int .i64 k)).setIfInBounds p2 (.int κ z), defers := [] } := (hfr0.put hf0 (.int .i64 k)).put hf1 (.int κ z)
                    split at hrd
                    rotate_left 1
                    · cases hrd
                    rename_i f2 σ4 ha4
                    split at hrd
                    rotate_left 1
                    · cases hrd
                    rename_i f3 σ5 hb5
                    cases hrd
                    have hg' := hg.mono s.g.mem
                    refine ⟨fn, _, assign, body, by have := run_yield (P := E.P) (args := #[.int .i64 k, .int κ z]) h3.at_ (by rw [hrec, hps']; rfl); rw [hrec] at this; exact this, roundIn_of_wpIn trivial ?_⟩
                    have e0 : (ps.zip #[Value.int .i64 k, .int κ z]).foldl (fun t (p, v) => t.setIfInBounds p v) a.tmps = (a.tmps.setIfInBounds p1 (.int .i64 k)).setIfInBounds p2 (.int κ z) := by rw [hps']; simp
                    rw [e0]
                    refine ha (F := Fence.wide.inRound L) (B := 0) (wd_wide.round L) (.inr hca) ha4 s.sr hg' (Marks.nil _ _ _ _) (Nat.zero_le _) hfr1 fun ρ4 M4 a4 w4 ms4 s4 _ hms4 hfr4 => ?_
                    have hms4 := hms4 hca
                    subst hms4
                    have hL4 := h3.step s4
                    refine ⟨_, run_beginRound hL4.at_ (by rw [hrec]), ?_⟩
                    have t4 : Step E.P ρ M σ w ρ4 M4 σ4 (w4.putObj L (.loop { rec .ready none with state := .busy })) := step_turn hsr (s.trans s4) _ (by omega) hL4.ren hL4.mem
                    refine hb (F := Fence.wide.inRound L) (B := 0) (wd_wide.round L) (.inr hcb) hb5 t4.sr (hg'.mono s4.g.mem) (Marks.nil _ _ _ _) (Nat.zero_le _) hfr4 fun ρ5 M5 a5 w5 ms5 s5 _ _ _ => ?_
                    have hL5 := (hL4.turn (o' := .loop { rec .ready none with state := .busy })).step s5
                    have hD5 := ((h2.step s4).put (y := L) (o' := .loop { rec .ready none with state := .busy }) hDL).step s5
                    refine ⟨_, _, run_endRound none hL5.at_, rfl, ρ5, M5, _, step_turn hsr (t4.trans s5) _ (by omega) hL5.ren hL5.mem, h1, hD5.put hDL, ?_⟩
                    have := hL5.turn (o' := .loop { ({ rec .ready none with state := .busy } : Loop) with state := if (none : Option Code).isNone then .ready else .done, pending := none })
                    rw [hrec] at this ⊢
                    exact this
                  · cases h1
                · cases h1
              · cases h1
            · exact ⟨ρ, M, σ, s1, hrun, D1, L1⟩
            · rintro e W' ⟨⟨v, rfl⟩, ρ', M', σ2, s, h1, h2, h3⟩
              cases h1
              refine ⟨none, _, by have := run_endLoop (P := E.P) h3.at_ (by rw [hrec]; simp); rw [hrec] at this; exact this, ?_⟩
              have s6 := step_turn hsr s (.loop (({ state := .exhausted, pending := none, fn, tmps := a.tmps, params := ps, assign, body, defers := w.heap.size } : Loop))) (by omega : w.heap.size ≤ L) h3.ren h3.mem
              have hD6 := h2.put (y := L) (o' := .loop (({ state := .exhausted, pending := none, fn, tmps := a.tmps, params := ps, assign, body, defers := w.heap.size } : Loop))) hDL
              refine hn ρ' M' _ _ (w.heap.size :: ms) s6 ⟨List.nodup_cons.2 ⟨fun hin => ?_, hm.nodup⟩, fun D hD => ?_⟩ ⟨(hfr.mono s.g).tmps, hfr.size, .mark _ _ _ _ (hfr.mono s.g).defers⟩
              · have := (Array.getElem?_eq_some_iff.1 (hm.at_ _ hin).2.1).1; omega
              · rcases List.mem_cons.1 hD with rfl | hD
                · exact ⟨hB, hD6.at_, hD6.ren, hD6.mem⟩
                · exact (hm.step s6).at_ D hD
        · cases h
      · cases h
    · cases h
  · cases h
end

section
variable {E : Env} {call : SS.Call}

theorem aCode_sound (hback : ∀ f, E.back f = true → BackOk E.P f) (hval : ValOk E) (hbi : BuiltinOk E) (hcall : CallOk E call) {draw : List Oper → Fr → St → Option (Fr × St)} (hdraw : DrawOk E draw) (m : Nat) : ∀ (c : Code), codeOk E c = true → RunOk E c (aCode E call draw m c) := by
  intro c
  induction c with
  | skip =>
    intro _ F n ρ M B ms w fr fr' σ σ' a x Q hF hd h hsr hg hm hB hfr hn
    unfold aCode at h; cases h
    exact wpIn_skip (hn _ _ _ _ _ (.refl hsr) hm (fun _ => rfl) hfr)
  | label l =>
    intro _ F n ρ M B ms w fr fr' σ σ' a x Q hF hd h hsr hg hm hB hfr hn
    unfold aCode at h; cases h
    exact wpIn_label (hn _ _ _ _ _ (.refl hsr) hm (fun _ => rfl) hfr)
  | region id ops d =>
    intro hok F n ρ M B ms w fr fr' σ σ' a x Q hF hd h hsr hg hm hB hfr hn
    unfold aCode at h
    split at h
    · rename_i fr1 σ1 h1
      cases h
      cases d with
      | false =>
        simp only [Bool.false_eq_true, if_false] at h1
        apply wpIn_region
        have := aOps_sound (n := n) (Q := Q) hF hval hbi hcall hd ops.toList 0 rfl h1 hsr hg hfr (fun ρ' M' a' w' s hf => hn _ _ _ _ _ s (hm.step s) (fun _ => rfl) hf)
        simpa [List.range_eq_range'] using this
      | true =>
        simp only [if_true] at h1
        apply wpIn_region_draw
        intro t
        have hs0 : Step E.P ρ M σ w ρ M σ { w with drawn := w.drawn + 1 } := step_same hsr rfl rfl rfl rfl
        have := hdraw (n := n) (Q := Q) hF hd (by simpa [codeOk] using hok) h1 hs0.sr hg hfr (fun ρ' M' a' w' hs hf => hn _ _ _ _ _ (hs0.trans hs) (hm.step (hs0.trans hs)) (fun _ => rfl) hf) t
        simpa using this
    · cases h
  | seq c1 c2 ih1 ih2 =>
    intro hok
    simp only [codeOk, Bool.and_eq_true] at hok
    replace ih1 := @ih1 hok.1
    replace ih2 := @ih2 hok.2
    intro F n ρ M B ms w fr fr' σ σ' a x Q hF hd h hsr hg hm hB hfr hn
    have hd1 : F.round = none ∨ calmC c1 = true := hd.imp id fun h => by simp only [calmC, Bool.and_eq_true] at h; exact h.1
    have hd2 : F.round = none ∨ calmC c2 = true := hd.imp id fun h => by simp only [calmC, Bool.and_eq_true] at h; exact h.2
    unfold aCode at h
    apply wpIn_seq
    split at h
    · rename_i fr1 σ1 h1
      exact ih1 hF hd1 h1 hsr hg hm hB hfr fun ρ' M' a' w' ms' hs q1 q2 hf => ih2 hF hd2 h hs.sr (hg.mono hs.g.mem) q1 (Nat.le_trans hB hs.size) hf fun ρ'' M'' a'' w'' ms'' hs' q3 q4 hf' => hn _ _ _ _ _ (hs.trans hs') q3 (fun hc => by
        simp only [calmC, Bool.and_eq_true] at hc
        exact (q4 hc.2).trans (q2 hc.1)) hf'
    · rename_i hne
      refine ih1 hF hd1 h hsr hg hm hB hfr fun ρ' M' a' w' ms' hs q1 q2 hf => ?_
      have q2' : calmC (c1.seq c2) = true → ms' = ms := fun hc => by
        simp only [calmC, Bool.and_eq_true] at hc
        exact q2 hc.1
      cases x with
      | norm => exact absurd h (hne _ _)
      | exit id => exact hn _ _ _ _ _ hs q1 q2' hf
      | ret => exact hn _ _ _ _ _ hs q1 q2' hf
  | cond c c1 c2 ih1 ih2 =>
    intro hok
    simp only [codeOk, Bool.and_eq_true] at hok
    replace ih1 := @ih1 hok.1
    replace ih2 := @ih2 hok.2
    intro F n ρ M B ms w fr fr' σ σ' a x Q hF hd h hsr hg hm hB hfr hn
    have hd1 : F.round = none ∨ calmC c1 = true := hd.imp id fun h => by simp only [calmC, Bool.and_eq_true] at h; exact h.1
    have hd2 : F.round = none ∨ calmC c2 = true := hd.imp id fun h => by simp only [calmC, Bool.and_eq_true] at h; exact h.2
    unfold aCode at h
    split at h
    · rename_i hc
      have := hfr.ev hc
      generalize hv : a.eval c = v at this
      cases this
      exact wpIn_cond_true hv (ih1 hF hd1 h hsr hg hm hB hfr fun ρ' M' a' w' ms' hs q1 q2 hf => hn _ _ _ _ _ hs q1 (fun hc => q2 (by simp only [calmC, Bool.and_eq_true] at hc; exact hc.1)) hf)
    · rename_i hc
      have := hfr.ev hc
      generalize hv : a.eval c = v at this
      cases this
      exact wpIn_cond_false hv (ih2 hF hd2 h hsr hg hm hB hfr fun ρ' M' a' w' ms' hs q1 q2 hf => hn _ _ _ _ _ hs q1 (fun hc => q2 (by simp only [calmC, Bool.and_eq_true] at hc; exact hc.2)) hf)
    · cases h
  | block id c ih =>
    intro hok
    simp only [codeOk] at hok
    replace ih := @ih hok
    intro F n ρ M B ms w fr fr' σ σ' a x Q hF hd h hsr hg hm hB hfr hn
    have hd1 : F.round = none ∨ calmC c = true := hd
    unfold aCode at h
    apply wpIn_block
    split at h
    · rename_i i fr1 σ1 h1
      split at h
      · rename_i hi
        cases h
        have hi := Nat.eq_of_beq_eq_true hi
        refine ih hF hd1 h1 hsr hg hm hB hfr fun ρ' M' a' w' ms' hs q1 q2 hf => ?_
        simp only [AEx.out, Exit.inBlock, hi, if_true]
        exact hn _ _ _ _ _ hs q1 q2 hf
      · rename_i hi
        cases h
        refine ih hF hd1 h1 hsr hg hm hB hfr fun ρ' M' a' w' ms' hs q1 q2 hf => ?_
        simp only [AEx.out, Exit.inBlock]
        rw [if_neg (fun he => hi (by rw [he]; exact Nat.beq_refl _))]
        exact hn _ _ _ _ _ hs q1 q2 hf
    · rename_i hne
      refine ih hF hd1 h hsr hg hm hB hfr fun ρ' M' a' w' ms' hs q1 q2 hf => ?_
      cases x with
      | norm => exact hn _ _ _ _ _ hs q1 q2 hf
      | exit id => exact absurd h (hne _ _ _)
      | ret => exact hn _ _ _ _ _ hs q1 q2 hf
  | loop c ih =>
    intro hok
    simp only [codeOk] at hok
    replace ih := @ih hok
    intro F n ρ M B ms w fr fr' σ σ' a x Q hF hd h hsr hg hm hB hfr hn
    unfold aCode at h
    intro b k cs hro _ _
    obtain ⟨e, a', w', hq, harr⟩ := loop_sound (m := n) hF ih hd m h hsr hg hm hB hfr hn b k cs hro
    exact ⟨e, a', w', hq, .of_steps (.one (hF.fenced _ _) stepR_loop) harr⟩
  | exit id =>
    intro _ F n ρ M B ms w fr fr' σ σ' a x Q hF hd h hsr hg hm hB hfr hn
    unfold aCode at h; cases h
    exact wpIn_exit (hn _ _ _ _ _ (.refl hsr) hm (fun _ => rfl) hfr)
  | ret =>
    intro _ F n ρ M B ms w fr fr' σ σ' a x Q hF hd h hsr hg hm hB hfr hn
    unfold aCode at h; cases h
    exact wpIn_ret (hn _ _ _ _ _ (.refl hsr) hm (fun _ => rfl) hfr)
  | rangeFunc g ps c1 c2 ih1 ih2 =>
    intro hok
    simp only [codeOk, Bool.and_eq_true] at hok
    replace ih1 := @ih1 hok.1
    replace ih2 := @ih2 hok.2
    intro F n ρ M B ms w fr fr' σ σ' a x Q hF hd h hsr hg hm hB hfr hn
    have hro : F.round = none := hd.resolve_right (by simp [calmC])
    unfold aCode at h
    cases hcalm : (calmC c1 && calmC c2) with
    | false =>
      rw [hcalm] at h
      unfold aRange at h
      split at h
      · simp at h
      · cases h
    | true =>
      rw [hcalm] at h
      simp only [Bool.and_eq_true] at hcalm
      cases hgv : fr.ev g with
      | none => rw [hgv] at h; cases h
      | some v =>
        rw [hgv] at h
        have h0 := h
        unfold aRange at h
        split at h
        · rename_i f p hv
          cases hv
          exact range_sound ih1 ih2 hcalm.1 hcalm.2 hF hro (hback f) hgv h0 hsr hg hm hB hfr fun ρ' M' a' w' ms' s q1 hf => hn _ _ _ _ _ s q1 (fun hc => by simp [calmC] at hc) hf
        · cases h
  | _ =>
    intro _ F n ρ M B ms w fr fr' σ σ' a x Q _ _ h
    unfold aCode at h; cases h
end
end SS

namespace SS
open Go

/-- slices.Insert at elements of k cells, road by road: at the end; where there is room; where there is none. -/
structure InsertOk (P : Program) (f : FuncId) (tS tI elem : TypeId) (k : Nat) : Prop where
  enters : ∀ args w, (callFunc f args).run P w = .ok (.enter f args) w
  big : 1 < k
  slice : P.underlying tS = some (.slice elem)
  int : P.underlying tI = some (.int .i64)
  info : ∃ inf z, P.info? elem = some inf ∧ inf.size = k ∧ inf.bytes ≤ 16384 ∧ zeroOf P elem = some z ∧ z.cells.length = k
  end_ : ∀ (s : Option Addr) (n c : Nat) (xa : Option Addr) (m vc : Nat) (w w' : World) (v : Value), 0 < m → n ≤ c →
    (∀ ty, (Builtin.append_ #[tS, tS] ty #[.slice s n c, .slice xa m vc]).run P w = .ok v w') → Calls P f #[.slice s n c, .int .i64 n, .slice xa m vc] w fun e w'' => e = .returned v ∧ w'' = w'
  room : ∀ (b off n c i : Nat) (b2 o2 m vc : Nat) (w W1 W2 : World) (cs cs2 : Array Value) (t t2 : TypeId) (fr fr2 : Nat × Nat) (q1 q2 : Nat), i < n → 0 < m → n + m ≤ c → n + m ≤ 4294967296 → b2 ≠ b →
    w.heap[b]? = some (.cells cs t fr) → fr.1 = fr.2 → 0 < cs.size → w.heap[b2]? = some (.cells cs2 t2 fr2) → 0 < cs2.size →
    (∀ ty dc sc, (Builtin.copy_ #[tS, tS] ty #[.slice (some ⟨b, off + (i + m) * k, none⟩) (n + m - (i + m)) dc, .slice (some ⟨b, off + i * k, none⟩) (n + m - i) sc]).run P w.drew = .ok (goInt q1) W1) →
    (∀ ty dc, (Builtin.copy_ #[tS, tS] ty #[.slice (some ⟨b, off + i * k, none⟩) (n + m - i) dc, .slice (some ⟨b2, o2, none⟩) m vc]).run P W1 = .ok (goInt q2) W2) →
    Calls P f #[.slice (some ⟨b, off, none⟩) n c, .int .i64 i, .slice (some ⟨b2, o2, none⟩) m vc] w fun e w' => e = .returned (.slice (some ⟨b, off, none⟩) (n + m) c) ∧ w' = W2
  grow : ∀ (b off n c i : Nat) (xa : Option Addr) (m vc : Nat) (w W1 W2 W3 : World) (g G q1 q2 : Nat), i < n → 0 < m → n ≤ c → c < n + m → n + m < 4611686018427387904 → n + m ≤ G →
    (∀ ty, (Builtin.append_ #[tS, tI] ty #[.slice (some ⟨b, off, none⟩) i c, .int .i64 ((n : Int) + (m : Int) - (i : Int))]).run P w = .ok (.slice (some ⟨g, 0, none⟩) (n + m) G) W1) →
    (∀ ty dc, (Builtin.copy_ #[tS, tS] ty #[.slice (some ⟨g, i * k, none⟩) (n + m - i) dc, .slice xa m vc]).run P W1 = .ok (goInt q1) W2) →
    (∀ ty dc sc, (Builtin.copy_ #[tS, tS] ty #[.slice (some ⟨g, (i + m) * k, none⟩) (n + m - (i + m)) dc, .slice (some ⟨b, off + i * k, none⟩) (n - i) sc]).run P W2.drew = .ok (goInt q2) W3) →
    Calls P f #[.slice (some ⟨b, off, none⟩) n c, .int .i64 i, .slice xa m vc] w fun e w' => e = .returned (.slice (some ⟨g, 0, none⟩) (n + m) G) ∧ w' = W3

section
variable {P : Program}

/-- copy, where it is known which cells are loaded and where they go. -/
theorem copy_at {tS elem : TypeId} {inf : TypeInfo} (ht : P.underlying tS = some (.slice elem)) (hi : P.info? elem = some inf) (ty : TypeId) {x o l c : Nat} {a : Addr} {m c2 : Nat} {r : List Value} {w w' : World}
    (hload : (loadCells a r.length).run P w = .ok r.toArray w) (hr : r.length = min m l * inf.size) (hst : (storeCells ⟨x, o, none⟩ r).run P w = .ok () w') :
    (Builtin.copy_ #[tS, tS] ty #[.slice (some ⟨x, o, none⟩) l c, .slice (some a) m c2]).run P w = .ok (goInt ((min m l : Nat) : Int)) w' := by
  have hmin : Nat.min m l = min m l := rfl
  have h0 : (Builtin.firstCells inf.size (min m l) (.slice (some a) m c2)).run P w = .ok r.toArray w := by
    simp only [Builtin.firstCells]
    rw [← hr, hload]
  simp only [Builtin.copy_, List.getElem?_toArray, List.getElem?_cons_zero, List.getElem?_cons_succ, Sem.run_bind, underlying_run ht, Result.andThen_ok, Builtin.lenOf, Sem.run_pure, hmin, sizeOf_run hi, h0]
  simp [hst, Result.andThen]

/-- Cells lie there, so they are loaded. -/
theorem load_at {x : Nat} {cs : Array Value} {t : TypeId} {fr : Nat × Nat} {w : World} (h : w.heap[x]? = some (.cells cs t fr)) (o n : Nat) (hle : o + n ≤ cs.size) {r : List Value} (hr : r = (cs.toList.drop o).take n) : (loadCells ⟨x, o, none⟩ r.length).run P w = .ok r.toArray w := by
  subst hr
  exact loadCells_row ((row_of_block h o).take n)
end

section
variable {ρ : Ren} {M : Mem} {E : Env} {w : World} {σ : St}

/-- In place: the machine has room. -/
theorem ins_room_sound {f : FuncId} {tS tI elem : TypeId} {k : Nat} (I : InsertOk E.P f tS tI elem k) {x : Nat} {cs : Array Value} {t : TypeId} {fr : Nat × Nat} (hx : w.heap[x]? = some (.cells cs t fr)) (hfr : fr.1 = fr.2)
    {o n c i m : Nat} (hi : i < n) (hm : 0 < m) (hroom : n + m ≤ c) (hc : n + m ≤ 4294967296) (hsz : o + c * k ≤ cs.size) {b2 o2 vc : Nat} {cs2 : Array Value} {t2 : TypeId} {fr2 : Nat × Nat} (hb2 : b2 ≠ x) (h2 : w.heap[b2]? = some (.cells cs2 t2 fr2))
    {new : List Value} (hnew : new = (cs2.toList.drop o2).take (m * k)) (hnl : new.length = m * k) (h1o : ∀ v ∈ (cs.toList.drop o).take (n * k), v.oneCell' = true) (h1n : ∀ v ∈ new, v.oneCell' = true) :
    ∃ w' cs', Only x w w' ∧ w'.heap[x]? = some (.cells cs' t fr) ∧ cs'.size = cs.size ∧ cs'.toList = cs.toList.take (o + i * k) ++ new ++ ((cs.toList.drop (o + i * k)).take ((n - i) * k)) ++ cs.toList.drop (o + (n + m) * k) ∧
      Calls E.P f #[.slice (some ⟨x, o, none⟩) n c, .int .i64 i, .slice (some ⟨b2, o2, none⟩) m vc] w fun e w'' => e = .returned (.slice (some ⟨x, o, none⟩) (n + m) c) ∧ w'' = w' := by
  obtain ⟨inf, z, hinf, rfl, _, _, _⟩ := I.info
  have hA : cs.toList.length = cs.size := by simp
  have m1 : (i + m) * inf.size = i * inf.size + m * inf.size := Nat.add_mul _ _ _
  have m2 : (n - i) * inf.size = n * inf.size - i * inf.size := Nat.sub_mul _ _ _
  have m3 : (n + m) * inf.size = n * inf.size + m * inf.size := Nat.add_mul _ _ _
  have m4 : (n + m) * inf.size ≤ c * inf.size := Nat.mul_le_mul_right _ hroom
  have m5 : i * inf.size ≤ n * inf.size := Nat.mul_le_mul_right _ (Nat.le_of_lt hi)
  have m6 : 0 < m * inf.size := Nat.mul_pos hm (by have := I.big; omega)
  obtain ⟨r1, hr1⟩ : ∃ r1, r1 = (cs.toList.drop (o + i * inf.size)).take ((n - i) * inf.size) := ⟨_, rfl⟩
  have hr1l : r1.length = (n - i) * inf.size := by rw [hr1, List.length_take, List.length_drop]; omega
  have h1r : ∀ v ∈ r1, v.oneCell' = true := fun v hv => by
    refine h1o v ?_
    rw [hr1] at hv
    have e1 : (cs.toList.drop (o + i * inf.size)).take ((n - i) * inf.size) = ((cs.toList.drop o).take (n * inf.size)).drop (i * inf.size) := by
      rw [List.drop_take, List.drop_drop, m2]
    rw [e1] at hv
    exact List.mem_of_mem_drop hv
  have hfz : ∀ j, j < cs.size → ¬ (fr.1 ≤ j ∧ j < fr.2) := fun j _ hh => by omega
  have hxd : w.drew.heap[x]? = some (.cells cs t fr) := hx
  obtain ⟨W1, cs1, g1, g2, g3, g4, g5⟩ := storeCells_run (P := E.P) (x := x) (o := o + (i + m) * inf.size) r1 0 w.drew cs hxd h1r (by rw [hr1l]; omega) hfz
  rw [Nat.add_zero] at g5
  have h2' : W1.heap[b2]? = some (.cells cs2 t2 fr2) := (g2.at_ b2 hb2).trans h2
  obtain ⟨W2, cs3, k1, k2, k3, k4, k5⟩ := storeCells_run (P := E.P) (x := x) (o := o + i * inf.size) new 0 W1 cs1 g3 h1n (by rw [hnl, g4]; omega) (by rw [g4]; exact hfz)
  rw [Nat.add_zero] at k5
  have ho2 : o2 + m * inf.size ≤ cs2.size := by
    have := hnl
    rw [hnew, List.length_take, List.length_drop] at this
    simp only [Array.length_toList] at this
    omega
  refine ⟨W2, cs3, ⟨fun y hy => (k2.at_ y hy).trans (g2.at_ y hy), k2.size.trans g2.size, k2.os.trans g2.os, k2.tape.trans g2.tape, k2.output.trans g2.output⟩, k3, k4.trans g4, ?_, ?_⟩
  · rw [k5, g5]
    have hlen1 : (cs.toList.take (o + (i + m) * inf.size)).length = o + (i + m) * inf.size := by rw [List.length_take]; omega
    have e1 : (cs.toList.take (o + (i + m) * inf.size) ++ r1 ++ cs.toList.drop (o + (i + m) * inf.size + r1.length)).take (o + i * inf.size) = cs.toList.take (o + i * inf.size) := by
      rw [List.append_assoc, List.take_append_of_le_length (by omega), List.take_take]
      congr 1; omega
    have e2 : (cs.toList.take (o + (i + m) * inf.size) ++ r1 ++ cs.toList.drop (o + (i + m) * inf.size + r1.length)).drop (o + i * inf.size + new.length) = r1 ++ cs.toList.drop (o + (n + m) * inf.size) := by
      rw [List.append_assoc, show o + i * inf.size + new.length = (cs.toList.take (o + (i + m) * inf.size)).length by omega, List.drop_left]
      congr 2; omega
    rw [e1, e2, hr1]
    simp [List.append_assoc]
  · refine I.room x o n c i b2 o2 m vc w W1 W2 cs cs2 t t2 fr fr2 (min (n + m - i) (n + m - (i + m))) (min m (n + m - i)) hi hm hroom hc hb2 hx hfr (by omega) h2 (by omega) (fun ty dc sc => ?_) (fun ty dc => ?_)
    · exact copy_at (l := n + m - (i + m)) (m := n + m - i) I.slice hinf ty (load_at hxd (o + i * inf.size) ((n - i) * inf.size) (by omega) hr1) (by rw [hr1l]; congr 1; omega) g1
    · exact copy_at (l := n + m - i) (m := m) I.slice hinf ty (load_at h2' o2 (m * inf.size) ho2 hnew) (by rw [hnl]; congr 1; omega) k1

theorem zcells_len {z : V} {zv : Value} {k : Nat} (hzr : VR ρ M z zv) (hzl : z.cells.length = k) (n : Nat) : (Builtin.zeroCells zv.cells n).toList.length = n * k := by
  have hzs : zv.cells.size = k := by have := hzr.cells.length; simpa [hzl] using this.symm
  rw [zeroCells_list]; simp [hzs]

/-- Into a new block: the machine has no room. -/
theorem ins_grow_sound {f : FuncId} {tS tI elem : TypeId} {k : Nat} (I : InsertOk E.P f tS tI elem k) {x : Nat} {cs : Array Value} {t : TypeId} {fr : Nat × Nat} (hx : w.heap[x]? = some (.cells cs t fr))
    {o n c i m : Nat} (hi : i < n) (hm : 0 < m) (hnc : n ≤ c) (hroom : c < n + m) (hbig : n + m ≤ 4294967296) (hsz : o + n * k ≤ cs.size) {b2 o2 vc : Nat} {cs2 : Array Value} {t2 : TypeId} {fr2 : Nat × Nat} (h2 : w.heap[b2]? = some (.cells cs2 t2 fr2))
    {new : List Value} (hnew : new = (cs2.toList.drop o2).take (m * k)) (hnl : new.length = m * k) (h1o : ∀ v ∈ (cs.toList.drop o).take (n * k), v.oneCell' = true) (h1n : ∀ v ∈ new, v.oneCell' = true) :
    ∃ w' cs' G tail, n + m ≤ G ∧ (∀ y, y < w.heap.size → w'.heap[y]? = w.heap[y]?) ∧ w.heap.size ≤ w'.heap.size ∧ w'.os = w.os ∧ w'.tape = w.tape ∧ w'.output = w.output ∧ w'.heap[w.heap.size]? = some (.cells cs' elem (0, 0)) ∧ G * k = cs'.size ∧
      cs'.toList = ((cs.toList.drop o).take (i * k)) ++ new ++ ((cs.toList.drop (o + i * k)).take ((n - i) * k)) ++ tail ∧
      Calls E.P f #[.slice (some ⟨x, o, none⟩) n c, .int .i64 i, .slice (some ⟨b2, o2, none⟩) m vc] w fun e w'' => e = .returned (.slice (some ⟨w.heap.size, 0, none⟩) (n + m) G) ∧ w'' = w' := by
  obtain ⟨inf, z, hinf, rfl, hb, hz, hzl⟩ := I.info
  have hA : cs.toList.length = cs.size := by simp
  have m0 : (n + m - i) * inf.size = n * inf.size + m * inf.size - i * inf.size := by rw [Nat.sub_mul, Nat.add_mul]
  have m1 : (i + m) * inf.size = i * inf.size + m * inf.size := Nat.add_mul _ _ _
  have m2 : (n - i) * inf.size = n * inf.size - i * inf.size := Nat.sub_mul _ _ _
  have m5 : i * inf.size ≤ n * inf.size := Nat.mul_le_mul_right _ (Nat.le_of_lt hi)
  obtain ⟨zv, hzv, hzr⟩ := zeroOf_sound (ρ := fun _ => none) (M := fun _ => none) hz w.drew
  have hzall : ∀ w' : World, (zeroValue elem).run E.P w' = .ok zv w' := fun w' => by
    obtain ⟨zv', h3, _⟩ := zeroOf_sound (ρ := fun _ => none) (M := fun _ => none) hz w'
    have : zv' = zv := zeroValue_det hzv h3
    subst this; exact h3
  have hzs : zv.cells.size = inf.size := by have := hzr.cells.length; simpa [hzl] using this.symm
  have hxd : w.drew.heap[x]? = some (.cells cs t fr) := hx
  obtain ⟨old, hold⟩ : ∃ old, old = (cs.toList.drop o).take (i * inf.size) := ⟨_, rfl⟩
  have holdl : old.length = i * inf.size := by rw [hold, List.length_take, List.length_drop]; omega
  have hfirst : (Builtin.firstCells inf.size i (.slice (some ⟨x, o, none⟩) i c)).run E.P w.drew = .ok old.toArray w.drew := by
    simp only [Builtin.firstCells]
    have := load_at (P := E.P) hxd o (i * inf.size) (by omega) hold
    rw [holdl] at this
    exact this
  have hsrc : ∀ w' : World, AppSrc E.P tI elem inf.size (.int .i64 ((n + m - i : Nat) : Int)) (n + m - i) (Builtin.zeroCells zv.cells (n + m - i)).toList w' := fun w' =>
    ⟨_, I.int, .inr ⟨rfl, rfl, by omega, zv, hzall w', hzs, rfl⟩⟩
  obtain ⟨G, hG, hap⟩ := append_grow (w := w) (sLen := i) (sCap := c) (base := some ⟨x, o, none⟩) I.slice hinf (hsrc w) (hsrc w.drew) hb (by omega) (by omega) hfirst hzv 0
  rw [show i + (n + m - i) = n + m by omega] at hG hap
  have hint : (((n + m - i : Nat) : Int)) = (n : Int) + (m : Int) - (i : Int) := by omega
  rw [hint] at hap
  have hZl := zcells_len hzr hzl (n + m - i)
  have hTl := zcells_len hzr hzl (G - (n + m))
  generalize hZ : (Builtin.zeroCells zv.cells (n + m - i)).toList = Z at hap hZl
  generalize hT : (Builtin.zeroCells zv.cells (G - (n + m))).toList = T at hap hTl
  have m7 : (G - (n + m)) * inf.size = G * inf.size - (n + m) * inf.size := Nat.sub_mul _ _ _
  have m8 : (n + m) * inf.size = n * inf.size + m * inf.size := Nat.add_mul _ _ _
  have m9 : (n + m) * inf.size ≤ G * inf.size := Nat.mul_le_mul_right _ hG
  obtain ⟨W1, hW1⟩ : ∃ W1, W1 = w.drew.alloc (.cells (old ++ Z ++ T).toArray elem) := ⟨_, rfl⟩
  rw [← hW1] at hap
  have hsize1 : W1.heap.size = w.heap.size + 1 := by rw [hW1]; show (w.heap.push _).size = _; simp
  have hat1 : ∀ y, y < w.heap.size → W1.heap[y]? = w.heap[y]? := fun y hy => by rw [hW1]; exact RowKit.Below.heap_alloc w.drew _ y hy
  have hnew1 : W1.heap[w.heap.size]? = some (.cells (old ++ Z ++ T).toArray elem (0, 0)) := by rw [hW1]; exact heap_alloc_new w.drew _
  have hRl : (old ++ Z ++ T).toArray.size = G * inf.size := by simp only [List.size_toArray, List.length_append]; omega
  have hxlt : x < w.heap.size := (Array.getElem?_eq_some_iff.1 hx).1
  have hblt : b2 < w.heap.size := (Array.getElem?_eq_some_iff.1 h2).1
  have hfz : ∀ sz j : Nat, j < sz → ¬ ((0, 0) : Nat × Nat).1 ≤ j ∨ ¬ j < ((0, 0) : Nat × Nat).2 := fun _ j _ => .inr (by simp)
  obtain ⟨W2, cs3, k1, k2, k3, k4, k5⟩ := storeCells_run (P := E.P) (x := w.heap.size) (o := i * inf.size) new 0 W1 _ hnew1 h1n (by rw [hnl, hRl]; omega) (fun j hj hh => by simp at hh)
  rw [Nat.add_zero] at k5
  obtain ⟨r1, hr1⟩ : ∃ r1, r1 = (cs.toList.drop (o + i * inf.size)).take ((n - i) * inf.size) := ⟨_, rfl⟩
  have hr1l : r1.length = (n - i) * inf.size := by rw [hr1, List.length_take, List.length_drop]; omega
  have h1r : ∀ v ∈ r1, v.oneCell' = true := fun v hv => by
    refine h1o v ?_
    rw [hr1] at hv
    have e1 : (cs.toList.drop (o + i * inf.size)).take ((n - i) * inf.size) = ((cs.toList.drop o).take (n * inf.size)).drop (i * inf.size) := by
      rw [List.drop_take, List.drop_drop, m2]
    rw [e1] at hv
    exact List.mem_of_mem_drop hv
  have hx2 : W2.drew.heap[x]? = some (.cells cs t fr) := (k2.at_ x (by omega)).trans ((hat1 x hxlt).trans hx)
  have k3d : W2.drew.heap[w.heap.size]? = some (.cells cs3 elem (0, 0)) := k3
  obtain ⟨W3, cs4, g1, g2, g3, g4, g5⟩ := storeCells_run (P := E.P) (x := w.heap.size) (o := (i + m) * inf.size) r1 0 W2.drew cs3 k3d h1r (by rw [hr1l, k4, hRl]; omega) (fun j hj hh => by simp at hh)
  rw [Nat.add_zero] at g5
  have ho2 : o2 + m * inf.size ≤ cs2.size := by
    have := hnl
    rw [hnew, List.length_take, List.length_drop] at this
    simp only [Array.length_toList] at this
    have : 0 < m * inf.size := Nat.mul_pos hm (by have := I.big; omega)
    omega
  have hb2' : W1.heap[b2]? = some (.cells cs2 t2 fr2) := (hat1 b2 hblt).trans h2
  refine ⟨W3, cs4, G, cs3.toList.drop ((i + m) * inf.size + r1.length), hG, fun y hy => (g2.at_ y (by omega)).trans ((k2.at_ y (by omega)).trans (hat1 y hy)), by rw [g2.size]; show _ ≤ W2.heap.size; rw [k2.size, hsize1]; omega, ?_, ?_, ?_, g3, by rw [g4, k4, hRl], ?_, ?_⟩
  · rw [g2.os]; show W2.os = _; rw [k2.os, hW1]; rfl
  · rw [g2.tape]; show W2.tape = _; rw [k2.tape, hW1]; rfl
  · rw [g2.output]; show W2.output = _; rw [k2.output, hW1]; rfl
  · rw [g5, k5, ← hr1, ← hold]
    congr 2
    have e3 : ((old ++ Z ++ T).toArray.toList.take (i * inf.size)) = old := by
      rw [List.toList_toArray, List.append_assoc, ← holdl, List.take_left]
    rw [e3, show (i + m) * inf.size = (old ++ new).length by rw [List.length_append]; omega, List.take_left]
  · refine I.grow x o n c i (some ⟨b2, o2, none⟩) m vc w W1 W2 W3 w.heap.size G (min m (n + m - i)) (min (n - i) (n + m - (i + m))) hi hm hnc hroom (by omega) hG (fun ty => hap) (fun ty dc => ?_) (fun ty dc sc => ?_)
    · exact copy_at (l := n + m - i) (m := m) I.slice hinf ty (load_at hb2' o2 (m * inf.size) ho2 hnew) (by rw [hnl]; congr 1; omega) k1
    · exact copy_at (l := n + m - (i + m)) (m := n - i) I.slice hinf ty (load_at hx2 (o + i * inf.size) ((n - i) * inf.size) (by omega) hr1) (by rw [hr1l]; congr 1; omega) g1

/-- A literal's cells. -/
theorem lit_row {y : V} {ys : List V} {full : Bool} {sz : Nat} {new : List V} {x' : Value} (hsr : SR E.P ρ M σ w) (hr : rowOf σ sz (ys.length + 1) (.lst (y :: ys) full) = some new) (hx : VR ρ M (.lst (y :: ys) full) x') :
    ∃ b o vc cs t fr, x' = .slice (some ⟨b, o, none⟩) (ys.length + 1) vc ∧ M b = some (.cells cs t fr) ∧ VRL ρ M new ((cs.toList.drop o).take ((ys.length + 1) * sz)) ∧ new.length = (ys.length + 1) * sz ∧ (ys.length + 1) * sz ≤ cs.size - o := by
  have hnl := rowOf_len hr
  cases hx with
  | lst _ _ _ b o vc cs t fr h1 h2 h3 h4 =>
    obtain ⟨k1, k2⟩ := h2.flat
    simp only [rowOf] at hr
    split at hr
    · split at hr
      · rename_i hlen
        have hlen := Nat.eq_of_beq_eq_true hlen
        have e0 : (y :: ys).take (ys.length + 1) = y :: ys := by rw [← List.length_cons (a := y), List.take_length]
        rw [e0] at hr hlen
        cases hr
        have k3 := k1.length
        rw [List.length_take] at k3
        have k4 : (y :: ys).length * y.cells.length = (ys.length + 1) * sz := by omega
        rw [k4] at k1 k2
        rw [List.length_drop, Array.length_toList] at k2
        exact ⟨b, o, vc, cs, t, fr, rfl, h1, k1, hnl, k2⟩
      · cases hr
    · cases hr

theorem cut_mid (P X R : List Value) (n : Nat) (hP : P.length = n) : ((P ++ (X ++ R)).drop n).take X.length = X := by
  subst hP; rw [List.drop_left, List.take_left]

theorem insertV_sound {f : FuncId} {tS tI elem : TypeId} {k i : Nat} (I : InsertOk E.P f tS tI elem k) {s x v : V} {s' x' : Value} {σ' : St} (h : insertV elem k s x i σ = some (v, σ')) (hsr : SR E.P ρ M σ w) (hs : VR ρ M s s') (hx : VR ρ M x x') :
    Calls E.P f #[s', .int .i64 (i : Int), x'] w fun | .returned v', w' => ∃ ρ' M', Step E.P ρ M σ w ρ' M' σ' w' ∧ VR ρ' M' v v' | _, _ => False := by
  obtain ⟨inf, z, hinf, rfl, hbytes, hz, hzl⟩ := I.info
  have hbig := I.big
  unfold insertV at h
  split at h
  rotate_left 1
  · cases h
  rename_i n y ys full hl
  split at h
  rotate_left 1
  · cases h
  rename_i new hrow
  split at h
  rotate_left 1
  · cases h
  rename_i hle
  have hle := Nat.le_of_ble_eq_true hle
  obtain ⟨b2, o2, vc, cs2, t2, fr2, rfl, hM, hnl, hnlen, hbd⟩ := lit_row hsr hrow hx
  have hb2 := hsr.mem _ _ hM
  obtain ⟨m, hm⟩ : ∃ m, m = ys.length + 1 := ⟨_, rfl⟩
  have hm0 : 0 < m := by omega
  rw [← hm] at h hrow hnl hnlen hbd hle
  rw [← hm] at hx ⊢
  split at h
  · rename_i hin
    have hin := Nat.eq_of_beq_eq_true hin
    subst hin
    split at h
    · cases h
    · rename_i hns
      have hns : ∀ b, s ≠ .str b := fun b e => hns b e
      obtain ⟨base, cap, rfl, hcap⟩ := slice_shape hl hs hns
      obtain ⟨l', q1, q2⟩ := rowOf_sound hrow hsr hx
      have hsrc : ∀ w' : World, w'.heap = w.heap → AppSrc E.P tS elem inf.size (.slice (some ⟨b2, o2, none⟩) m vc) m l' w' := fun w' hw' => ⟨_, I.slice, .inl ⟨rfl, rfl, q1 w' hw'⟩⟩
      obtain ⟨v', w', ρ', M', g1, g2, g3⟩ := appendGo_sound (t := tS) (u := tS) h I.slice hinf hbytes hle hm0 (by omega) hl hz hzl hsr hs hsrc q2 hnlen 0
      refine (I.end_ base i cap _ m vc w w' v' hm0 hcap (fun ty => g1)).mono fun e w'' hh => ?_
      obtain ⟨rfl, rfl⟩ := hh
      exact ⟨ρ', M', g2, g3⟩
  · rename_i hne
    split at h
    rotate_left 1
    · cases h
    rename_i b ver off len
    cases hl
    split at h
    rotate_left 1
    · cases h
    rename_i cs ty ver' hblk
    split at h
    rotate_left 1
    · cases h
    rename_i hc
    cases h
    simp only [Bool.and_eq_true] at hc
    obtain ⟨⟨⟨⟨⟨c1, c2⟩, c3⟩, c4⟩, c5⟩, c6⟩ := hc
    have c1 := Nat.eq_of_beq_eq_true c1
    have c2 := Nat.eq_of_beq_eq_true c2
    have c3 : i < n := (Nat.blt_eq).mp c3
    have c4 := Nat.le_of_ble_eq_true c4
    subst c1; subst c2
    obtain ⟨e, he, hcase⟩ := hs.ref_inv
    obtain ⟨hv, hv0, hesz, cs', fr, hh, hsize, hle2, hrel, hfr⟩ := fits_blk hsr he hblk
    subst hv
    have hes : e.sz = inf.size := hesz.trans (cellsOf_info hinf)
    have hcap : ∃ c, s' = .slice (some ⟨e.x, e.s + off, none⟩) n c ∧ n ≤ c ∧ e.s + off + c * e.sz = e.size := by
      rcases hcase with ⟨hx, _⟩ | ⟨_, c', hc', _, hx⟩ | ⟨_, _, c', hc1, hc2, hx⟩ | ⟨_, _, hc1, hc2, hx⟩
      · omega
      · cases hc'
      · exact ⟨c', hx, hc1, hc2⟩
      · omega
    obtain ⟨c, rfl, hnc, hce⟩ := hcap
    rw [hes] at hce
    have hfr0 : fr.1 = fr.2 := (hfr rfl).2.resolve_left (by rw [hes]; omega)
    have hne2 : b2 ≠ e.x := fun hh => by have := hsr.disj b e he; rw [← hh, hM] at this; cases this
    have hA : cs'.toList.length = e.size := by simpa using hsize
    have p1 : n * inf.size ≤ c * inf.size := Nat.mul_le_mul_right _ hnc
    have p2 : (n - i) * inf.size = n * inf.size - i * inf.size := Nat.sub_mul _ _ _
    have p3 : i * inf.size ≤ n * inf.size := Nat.mul_le_mul_right _ (Nat.le_of_lt c3)
    have holdr : VRL ρ M ((cs.drop off).take (n * inf.size)) ((cs'.toList.drop (e.s + off)).take (n * inf.size)) := by
      have := (hrel.drop off).take (n * inf.size)
      have e1 : (((cs'.toList.drop e.s).take cs.length).drop off).take (n * inf.size) = (cs'.toList.drop (e.s + off)).take (n * inf.size) := by
        rw [List.drop_take, List.take_take, List.drop_drop]
        congr 1; omega
      rw [e1] at this; exact this
    have h1o := oneCells holdr c6
    have h1n := oneCells hnl c5
    have hnewl : ((cs2.toList.drop o2).take (m * inf.size)).length = m * inf.size := by rw [← hnl.length, hnlen]
    have ha : VRL ρ M ((cs.drop off).take (i * inf.size)) ((cs'.toList.drop (e.s + off)).take (i * inf.size)) := by
      have := holdr.take (i * inf.size)
      rw [List.take_take, List.take_take, Nat.min_eq_left p3] at this
      exact this
    have hb' : VRL ρ M ((cs.drop (off + i * inf.size)).take ((n - i) * inf.size)) ((cs'.toList.drop (e.s + off + i * inf.size)).take ((n - i) * inf.size)) := by
      have := holdr.drop (i * inf.size)
      rw [List.drop_take, List.drop_take, List.drop_drop, List.drop_drop, ← p2] at this
      exact this
    have hall := ha.append (hnl.append hb')
    have halllen := hall.length
    by_cases hroom : n + m ≤ c
    · obtain ⟨w', cs3, o1, o3, o4, o5, o6⟩ := ins_room_sound I hh hfr0 (o := e.s + off) (c := c) (vc := vc) c3 hm0 hroom hle (by rw [hsize]; omega) hne2 hb2 rfl hnewl h1o h1n
      have p4 : (n + m) * inf.size ≤ c * inf.size := Nat.mul_le_mul_right _ hroom
      have p5 : (n + m) * inf.size = n * inf.size + m * inf.size := Nat.add_mul _ _ _
      have hst := step_bump (e' := ⟨e.x, e.s + off, e.ver + 1, e.size, e.sz⟩) (o := .blk ((cs.drop off).take (i * inf.size) ++ (new ++ (cs.drop (off + i * inf.size)).take ((n - i) * inf.size))) ty (e.ver + 1) false) hsr he (Nat.lt_succ_self _) (by rw [hes]; omega)
        (fun y _ hy => o1.at_ y hy) (by rw [o1.size]; exact Nat.le_refl _) o1.os o1.tape o1.output (.inl rfl)
        fun g => ⟨rfl, fun h0 => by omega, hesz, cs3, fr, o3, o4.trans hsize, by
          simp only [List.length_append, hnlen, List.length_take, List.length_drop]; omega, (by
          have q : (cs3.toList.drop (e.s + off)).take ((cs.drop off).take (i * inf.size) ++ (new ++ (cs.drop (off + i * inf.size)).take ((n - i) * inf.size))).length = ((cs'.toList.drop (e.s + off)).take (i * inf.size)) ++ (((cs2.toList.drop o2).take (m * inf.size)) ++ ((cs'.toList.drop (e.s + off + i * inf.size)).take ((n - i) * inf.size))) := by
            rw [halllen, o5]
            have t1 : cs'.toList.take (e.s + off + i * inf.size) = cs'.toList.take (e.s + off) ++ (cs'.toList.drop (e.s + off)).take (i * inf.size) := List.take_add
            rw [t1]
            have t2 : (cs'.toList.take (e.s + off)).length = e.s + off := by rw [List.length_take]; omega
            have t3 := cut_mid (cs'.toList.take (e.s + off)) (((cs'.toList.drop (e.s + off)).take (i * inf.size)) ++ (((cs2.toList.drop o2).take (m * inf.size)) ++ ((cs'.toList.drop (e.s + off + i * inf.size)).take ((n - i) * inf.size)))) (cs'.toList.drop (e.s + off + (n + m) * inf.size)) _ t2
            simpa only [List.append_assoc] using t3
          show VRL _ M _ ((cs3.toList.drop (e.s + off)).take _)
          rw [q]; exact hall.mono g), fun _ => hfr rfl⟩
      refine o6.mono fun e2 w'' hh => ?_
      obtain ⟨rfl, rfl⟩ := hh
      refine ⟨_, M, hst, ?_⟩
      have := VR.ref (M := M) b 0 (n + m) c ⟨e.x, e.s + off, e.ver + 1, e.size, e.sz⟩ (Ren.upd_same ρ b _) hroom (by simp only [Nat.add_zero]; rw [hes]; exact hce)
      simpa using this
    · obtain ⟨w', cs3, G, tail, o0, o1, o2', o3, o4, o5, o6, o7, o8, o9⟩ := ins_grow_sound I hh (o := e.s + off) (c := c) (vc := vc) c3 hm0 hnc (by omega) hle (by rw [hsize]; omega) hb2 rfl hnewl h1o h1n
      have hst := step_bump (e' := ⟨w.heap.size, 0, e.ver + 1, cs3.size, e.sz⟩) (o := .blk ((cs.drop off).take (i * inf.size) ++ (new ++ (cs.drop (off + i * inf.size)).take ((n - i) * inf.size))) ty (e.ver + 1) false) hsr he (Nat.lt_succ_self _) (by rw [hes]; omega)
        (fun y hy _ => o1 y hy) o2' o3 o4 o5 (.inr (Nat.le_refl _))
        fun g => ⟨rfl, fun h0 => by omega, hesz, cs3, (0, 0), o6, rfl, by
          have p6 : (n + m) * inf.size ≤ G * inf.size := Nat.mul_le_mul_right _ o0
          have p5 : (n + m) * inf.size = n * inf.size + m * inf.size := Nat.add_mul _ _ _
          simp only [List.length_append, hnlen, List.length_take, List.length_drop]; omega, (by
          have q : (cs3.toList.drop 0).take ((cs.drop off).take (i * inf.size) ++ (new ++ (cs.drop (off + i * inf.size)).take ((n - i) * inf.size))).length = ((cs'.toList.drop (e.s + off)).take (i * inf.size)) ++ (((cs2.toList.drop o2).take (m * inf.size)) ++ ((cs'.toList.drop (e.s + off + i * inf.size)).take ((n - i) * inf.size))) := by
            rw [halllen, o8]
            have t3 := cut_mid [] (((cs'.toList.drop (e.s + off)).take (i * inf.size)) ++ (((cs2.toList.drop o2).take (m * inf.size)) ++ ((cs'.toList.drop (e.s + off + i * inf.size)).take ((n - i) * inf.size)))) tail 0 rfl
            simpa only [List.append_assoc, List.nil_append] using t3
          show VRL _ M _ ((cs3.toList.drop 0).take _)
          rw [q]; exact hall.mono g), fun _ => offS_new⟩
      refine o9.mono fun e2 w'' hh => ?_
      obtain ⟨rfl, rfl⟩ := hh
      refine ⟨_, M, hst, ?_⟩
      have := VR.ref (M := M) b 0 (n + m) G ⟨w.heap.size, 0, e.ver + 1, cs3.size, e.sz⟩ (Ren.upd_same ρ b _) o0 (by simp only [Nat.add_zero, Nat.zero_add]; rw [hes]; exact o7)
      simpa using this
end
end SS

namespace SS
open Go

def eOp (E : Env) (call : SS.Call) (ev : Operand → Option V) (o : Oper) (σ : St) : Option (V × St) :=
  match o.op with
  | .call c => match evs ev c.args.toList with
    | some vs => match c.callee with
      | .builtin b => builtinV E b c.argTypes.toList vs σ
      | .value f => match ev f with
        | some (.fn g cap) => call g (vs ++ cap) σ
        | _ => none
      | .invoke .. => none
    | none => none
  | .defer _ => none
  | op => aVal E ev op σ

theorem evs_congr {ev ev' : Operand → Option V} : ∀ {l : List Operand}, (∀ x ∈ l, ev x = ev' x) → evs ev l = evs ev' l
  | [], _ => rfl
  | x :: l, h => by
    unfold evs
    rw [h x (by simp), evs_congr (l := l) fun y hy => h y (by simp [hy])]

theorem evParts_congr {ev ev' : Operand → Option V} : ∀ {l : List (Nat × Operand)}, (∀ x ∈ l, ev x.2 = ev' x.2) → evParts ev l = evParts ev' l
  | [], _ => rfl
  | (i, x) :: l, h => by
    unfold evParts
    rw [h (i, x) (by simp), evParts_congr (l := l) fun y hy => h y (by simp [hy])]

theorem optEv_congr {ev ev' : Operand → Option V} {x : Option Operand} (h : ∀ y, x = some y → ev y = ev' y) : optEv ev x = optEv ev' x := by
  cases x with
  | none => rfl
  | some x => unfold optEv; simp only; rw [h x rfl]

section
variable {E : Env} {call : SS.Call}

theorem aVal_congr {ev ev' : Operand → Option V} {op : Op} {σ : St} (h : ∀ x ∈ op.operands, ev x = ev' x) : aVal E ev op σ = aVal E ev' op σ := by
  cases op <;> simp only [Op.operands] at h <;> try rfl
  all_goals unfold aVal; simp only
  case build t ps => rw [evParts_congr fun x hx => h x.2 (by simp; exact ⟨x.1, by simpa using hx⟩)]
  case buildSlice t n ps => rw [evParts_congr fun x hx => h x.2 (by simp; exact ⟨x.1, by simpa using hx⟩)]
  case makeFunc f first cap => rw [evs_congr fun x hx => h x (by simp at hx ⊢; exact .inr hx)]
  case makeMap t r => rw [optEv_congr fun y hy => h y (by simp [hy])]
  case slice t x lo hi mx =>
    rw [h x (by simp), optEv_congr (x := lo) fun y hy => h y (by simp [hy]), optEv_congr (x := hi) fun y hy => h y (by simp [hy]), optEv_congr (x := mx) fun y hy => h y (by simp [hy])]
  all_goals (first | (simp_all; done))

theorem eOp_congr {ev ev' : Operand → Option V} {o : Oper} {σ : St} (h : ∀ x ∈ o.op.operands, ev x = ev' x) : eOp E call ev o σ = eOp E call ev' o σ := by
  unfold eOp
  split
  · rename_i c hc
    rw [hc] at h
    simp only [Op.operands] at h
    rw [evs_congr (l := c.args.toList) fun x hx => h x (by simp [Call.operands]; exact .inr (by simpa using hx))]
    split
    · split
      · rfl
      · rename_i f hf
        rw [h f (by simp [Call.operands, hf])]
      · rfl
    · rfl
  · rfl
  · exact aVal_congr h

theorem aOper_eOp {o : Oper} {fr fr' : Fr} {σ σ' : St} (hd : ∀ c, o.op ≠ .defer c) (h : aOper E call o fr σ = some (fr', σ')) : ∃ v, eOp E call fr.ev o σ = some (v, σ') ∧ fr.put o.dst v = some fr' := by
  unfold aOper at h
  unfold eOp
  split at h
  · rename_i c ho
    simp only [ho]
    split at h
    · rename_i vs hvs
      simp only [hvs]
      dsimp only at h
      split at h
      · rename_i v σ1 hr
        split at h
        · rename_i fr1 hp
          cases h
          exact ⟨v, hr, hp⟩
        · cases h
      · cases h
    · cases h
  · rename_i c ho; exact absurd ho (hd c)
  · rename_i h1 h2
    split at h
    · rename_i v σ1 hr
      split at h
      · rename_i fr1 hp
        cases h
        refine ⟨v, ?_, hp⟩
        split
        · rename_i c ho; exact absurd ho (h1 c)
        · rename_i c ho; exact absurd ho (h2 c)
        · exact hr
      · cases h
    · cases h

theorem eOp_sound {F : Fence} {n : Nat} (hF : Wd F) (hval : ValOk E) (hbi : BuiltinOk E) (hcall : CallOk E call) {ρ : Ren} {M : Mem} {w : World} {o : Oper} {ev : Operand → Option V} {v : V} {σ σ' : St} {a : Act} {next : Act → World → Prop} {Q : Exit → Act → World → Prop}
    (hd : F.round = none ∨ calmO o = true) (h : eOp E call ev o σ = some (v, σ')) (hsr : SR E.P ρ M σ w) (hg : GOk E M) (hev : EV ρ M ev a.eval)
    (hn : ∀ ρ' M' v' w', Step E.P ρ M σ w ρ' M' σ' w' → VR ρ' M' v v' → next (a.put o.dst v') w') : o.wpIn F n E.P a w next Q := by
  unfold eOp at h
  split at h
  · rename_i c ho
    split at h
    · rename_i vs hvs
      have hvs' := evs_sound hev hvs
      apply wpIn_of_upon hF hd
      split at h
      · rename_i b hc
        obtain ⟨v', w', ρ', M', h1, h2, h3⟩ := hbi (ty := o.type) (cb := (c.args.map fun | .const _ => true | _ => false)) h hsr hg hvs'
        have hrun : (execOp a.eval o).run E.P w = .ok (.value v') w' := by
          simp only [execOp, ho, resolve, hc, Sem.run_bind, Sem.run_pure, Result.andThen_ok, invoke]
          rw [← h1]; congr 2
          apply Array.ext'; simp
        rw [hrun]
        exact hn _ _ _ _ h2 h3
      · rename_i f hc
        split at h
        · rename_i g cap hf
          obtain ⟨cap', hx, hcap⟩ := fn_inv (hev _ _ hf)
          have hrun : (execOp a.eval o).run E.P w = (callFunc g (c.args.map a.eval ++ cap')).run E.P w := by
            simp only [execOp, ho, resolve, hc, hx, Deferred.ofValue, Sem.run_bind, Sem.run_pure, Result.andThen_ok, invoke, Array.empty_append]
          have hargs : (c.args.map a.eval ++ cap') = (c.args.toList.map a.eval ++ cap'.toList).toArray := by apply Array.ext'; simp
          rw [hrun, hargs]
          rcases hcall h hsr hg (hvs'.append hcap) with ⟨v', w', h1, ρ', M', h2, h3⟩ | ⟨h1, h2⟩
          · rw [h1]
            exact hn _ _ _ _ h2 h3
          · rw [h1]
            refine ⟨hF.dep, CallsIn.mono (hF.calls h2) fun e w' he => ?_⟩
            cases e with
            | returned v' =>
              obtain ⟨ρ', M', h2, h3⟩ := he
              exact hn _ _ _ _ h2 h3
            | panicked _ => exact he.elim
            | outgrown => exact he.elim
        · cases h
      · cases h
    · cases h
  · cases h
  · obtain ⟨v', w', ρ', M', h1, h2, h3⟩ := hval h hsr hg hev
    apply wpIn_of_upon hF hd
    rcases h1 with h1 | ⟨h1, rfl⟩
    · rw [h1]; exact hn _ _ _ _ h2 h3
    · rw [h1]; exact hn _ _ _ _ h2 h3

/-- The guard looks at the guard's result alone. -/
theorem wants_congr {ops : List Oper} {o : Oper} {fr fr' : Fr} (h : ∀ j w p d, o.guard = some (j, w) → ops[j]? = some p → p.dst = some d → fr.t.get d = fr'.t.get d) : wants ops o fr = wants ops o fr' := by
  unfold wants
  split
  · rfl
  · rename_i j w hg
    split
    · rename_i p hp
      split
      · rename_i d hd
        rw [h j w p d hg hp hd]
      · rfl
    · rfl

theorem keep_inv {σ σ' : St} {r : Option V} {v : V} (h : keep σ r = some (v, σ')) : r = some v ∧ σ' = σ := by
  unfold keep at h
  split at h
  · cases h; exact ⟨rfl, rfl⟩
  · cases h

theorem keep_to {σ σ' : St} {r : Option V} {v : V} (h : keep σ r = some (v, σ')) (τ : St) : keep τ r = some (v, τ) := by
  rw [(keep_inv h).1]; rfl

/-- Of its operands alone. -/
theorem aVal0 {op : Op} {o : Oper} (ho : o.op = op) {ev : Operand → Option V} {v : V} {σ σ' : St} (hk : kindOp E o = 0) (hc : ∀ c, op ≠ .call c) (h : aVal E ev op σ = some (v, σ')) (τ : St) : aVal E ev op τ = some (v, τ) := by
  cases op <;> simp only [kindOp, ho] at hk <;> try (exact absurd hk (by decide))
  case call c => exact absurd rfl (hc c)
  case alloc => split at hk <;> cases hk
  case makeSlice => split at hk <;> cases hk
  case box => split at hk <;> cases hk
  case convert => split at hk <;> cases hk
  case makeMap t r => cases r with
    | none => simp only at hk; split at hk <;> cases hk
    | some r => cases hk
  case binOp op t x y c =>
    simp only [aVal] at h ⊢
    split at h
    · rename_i a b ha hb
      have hn : ∀ u, E.P.underlying t ≠ some (.pointer u) := by
        intro u hu; rw [hu] at hk; cases hk
      have hb : binO E op t x y a b τ = binO E op t x y a b σ := by
        unfold binO
        split <;> try rfl
        unfold binV
        split <;> try rfl
        have : eqV E t a b τ = eqV E t a b σ := by
          unfold eqV
          split <;> first | rfl | exact absurd (by assumption) (hn _)
        rw [this]
      rw [hb]; exact keep_to h τ
    · cases h
  case buildSlice t n ps =>
    have hw : E.wlit t = false := by
      cases hw : E.wlit t with
      | false => rfl
      | true => rw [hw] at hk; cases hk
    simp only [aVal] at h ⊢
    split at h
    · rename_i l hl
      unfold buildSliceV at h ⊢
      simp only [hw] at h ⊢
      repeat' split at h
      all_goals (first | (cases h; done) | (simp_all; done))
    · cases h
  all_goals
    simp only [aVal] at h ⊢
    first
      | exact keep_to h τ
      | ((repeat' split at h) <;> first | (cases h; done) | (obtain ⟨h1, _⟩ := keep_inv h; simp [*, keep]; done) | (simp_all; done))

theorem kind0 {o : Oper} {ev : Operand → Option V} {v : V} {σ σ' : St} (hk : kindOp E o = 0) (h : eOp E call ev o σ = some (v, σ')) (τ : St) : eOp E call ev o τ = some (v, τ) := by
  unfold eOp at h ⊢
  split at h
  · rename_i c ho
    have hk' : (match c.callee with
      | .builtin .len | .builtin .cap => 1
      | .builtin .min | .builtin .max => 0
      | _ => 2) = 0 := by have hk0 := hk; simp only [kindOp, ho] at hk0; exact hk0
    split at h
    · rename_i vs hvs
      split at h
      · rename_i b hb
        rw [hb] at hk'
        have hb' : b = .min ∨ b = .max := by cases b <;> simp_all
        rcases hb' with rfl | rfl
        · unfold builtinV at h ⊢
          split at h <;> simp_all
          all_goals exact keep_to h τ
        · unfold builtinV at h ⊢
          split at h <;> simp_all
          all_goals exact keep_to h τ
      · rename_i f hf
        rw [hf] at hk'; cases hk'
      · cases h
    · cases h
  · cases h
  · rename_i op hc hd
    exact aVal0 rfl hk hc h τ

theorem kind1 {o : Oper} {fr : Fr} {v : V} {σ : St} (hk : kindOp E o = 1) (h : readAt E o fr σ = some v) : eOp E call fr.ev o σ = some (v, σ) := by
  unfold readAt at h
  unfold eOp
  split at h
  · rename_i c ho
    have hk' : (match c.callee with
      | .builtin .len | .builtin .cap => 1
      | .builtin .min | .builtin .max => 0
      | _ => 2) = 1 := by have hk0 := hk; simp only [kindOp, ho] at hk0; exact hk0
    split at h
    · rename_i b vs hb hvs
      rw [hb] at hk'
      simp only [ho, hvs, hb]
      split at h
      · rename_i v1 σ1 h1
        cases h
        rw [h1]
        have hb' : b = .len ∨ b = .cap := by cases b <;> simp_all
        have : σ1 = σ := by
          rcases hb' with rfl | rfl <;>
          · unfold builtinV at h1
            split at h1 <;> first | exact (keep_inv h1).2 | simp_all
        rw [this]
      · cases h
    · cases h
  · rename_i op hc
    split at h
    · rename_i v1 σ1 h1
      cases h
      have hs : σ1 = σ := by
        cases ho : o.op <;> simp only [kindOp, ho] at hk <;> try (exact absurd hk (by decide))
        case call c => exact absurd ho (hc c)
        case alloc => split at hk <;> cases hk
        case makeSlice => split at hk <;> cases hk
        case box => split at hk <;> cases hk
        case move => split at hk <;> cases hk
        case build => split at hk <;> cases hk
        case convert s d x =>
          rw [ho] at h1
          simp only [aVal] at h1
          split at h1
          · have hns : sliceSlice E s d = false := by
              cases hs : sliceSlice E s d with
              | false => rfl
              | true => rw [hs] at hk; simp at hk
            rw [hns] at h1
            exact (keep_inv h1).2
          · cases h1
        case makeMap t r => cases r with
          | none => simp only at hk; split at hk <;> cases hk
          | some r => cases hk
        case buildSlice => split at hk <;> cases hk
        all_goals
          rw [ho] at h1
          simp only [aVal] at h1
          repeat' split at h1
          all_goals first | exact (keep_inv h1).2 | (cases h1; done)
      subst hs
      split
      · rename_i c ho; exact absurd ho (hc c)
      · rename_i c ho; simp [kindOp, ho] at hk
      · exact h1
    · cases h
end

/-! ## Equality of values -/
mutual
theorem V.beq_eq : ∀ (a b : V), V.beq a b = true → a = b
  | .bool _, b, h => by cases b <;> simp_all [V.beq]
  | .int _ _, b, h => by
    cases b <;> simp_all [V.beq]
    exact kindEq_eq h.1
  | .str _, b, h => by cases b <;> simp_all [V.beq, bytesEq_eq]
  | .nilS, b, h => by cases b <;> simp_all [V.beq]
  | .emp, b, h => by cases b <;> simp_all [V.beq]
  | .lst xs f, b, h => by
    cases b <;> simp_all [V.beq]
    exact V.beqs_eq _ _ h.1
  | .ref _ _ _ _ c, b, h => by
    cases b <;> simp_all [V.beq]
    rename_i c'
    cases c <;> cases c' <;> simp_all
  | .ptr0, b, h => by cases b <;> simp_all [V.beq]
  | .map0, b, h => by cases b <;> simp_all [V.beq]
  | .fn0, b, h => by cases b <;> simp_all [V.beq]
  | .if0, b, h => by cases b <;> simp_all [V.beq]
  | .ptr .., b, h => by cases b <;> simp_all [V.beq]
  | .map _, b, h => by cases b <;> simp_all [V.beq]
  | .fn _ c, b, h => by
    cases b <;> simp_all [V.beq]
    exact V.beqs_eq _ _ h.2
  | .ifc _ x, b, h => by
    cases b <;> simp_all [V.beq]
    exact V.beq_eq _ _ h.2
  | .agg x, b, h => by
    cases b <;> simp_all [V.beq]
    exact V.beqs_eq _ _ h
  | .tup x, b, h => by
    cases b <;> simp_all [V.beq]
    exact V.beqs_eq _ _ h
  | .eptr x _ _, b, h => by
    cases b <;> simp_all [V.beq]
    exact V.beqs_eq _ _ h.2
  | .gptr .., b, h => by cases b <;> simp_all [V.beq]
  | .opq, b, h => by cases b <;> simp_all [V.beq]
theorem V.beqs_eq : ∀ (a b : List V), V.beq.beqs a b = true → a = b
  | [], b, h => by cases b <;> simp_all [V.beq.beqs]
  | x :: xs, b, h => by
    cases b with
    | nil => simp [V.beq.beqs] at h
    | cons y ys =>
      simp only [V.beq.beqs, Bool.and_eq_true] at h
      rw [V.beq_eq x y h.1, V.beqs_eq xs ys h.2]
end
end SS

namespace SS
open Go

/-! ## Masks -/
theorem edgeMask_bit {tab : PT Nat} {e : Edge} {i : Nat} (h : (edgeMask tab e).testBit i = true) : i = e.on ∨ ∃ m, tab.get e.on = some m ∧ m.testBit i = true := by
  unfold edgeMask at h
  rw [Nat.testBit_or, Bool.or_eq_true] at h
  rcases h with h | h
  · rw [Nat.testBit_two_pow] at h
    exact .inl (by simpa using (of_decide_eq_true h).symm)
  · split at h
    · rename_i m hm; exact .inr ⟨m, hm, h⟩
    · simp at h

theorem maskOf_bit {tab : PT Nat} {i : Nat} : ∀ {l : List Edge}, (maskOf tab l).testBit i = true → ∃ e ∈ l, Region.binds .any e = true ∧ (i = e.on ∨ ∃ m, tab.get e.on = some m ∧ m.testBit i = true)
  | [], h => by simp [maskOf] at h
  | e :: l, h => by
    unfold maskOf at h
    split at h
    · rename_i hb
      rw [Nat.testBit_or, Bool.or_eq_true] at h
      rcases h with h | h
      · exact ⟨e, by simp, hb, edgeMask_bit h⟩
      · obtain ⟨e', h1, h2⟩ := maskOf_bit h
        exact ⟨e', by simp [h1], h2⟩
    · obtain ⟨e', h1, h2⟩ := maskOf_bit h
      exact ⟨e', by simp [h1], h2⟩

theorem masks_bit {full : Nat → Option Nat} : ∀ (ops : List Oper) (i0 : Nat) (tab : PT Nat), (∀ j m, tab.get j = some m → full j = some m) → (∀ k, k < ops.length → (masks ops i0 tab)[k]? = full (i0 + k)) →
    ∀ (k m i : Nat) (o : Oper), (masks ops i0 tab)[k]? = some m → ops[k]? = some o → m.testBit i = true → ∃ e ∈ o.after.toList, Region.binds .any e = true ∧ (i = e.on ∨ ∃ m', full e.on = some m' ∧ m'.testBit i = true)
  | [], _, _, _, _, k, m, i, o, hm, _, _ => by simp [masks] at hm
  | o0 :: r, i0, tab, ht, hf, k, m, i, o, hm, ho, hb => by
    have h0 : full i0 = some (maskOf tab o0.after.toList) := by
      have := hf 0 (by simp)
      simpa [masks] using this.symm
    cases k with
    | zero =>
      simp only [masks, List.getElem?_cons_zero, Option.some.injEq] at hm ho
      subst hm; subst ho
      obtain ⟨e, h1, h2, h3⟩ := maskOf_bit hb
      exact ⟨e, h1, h2, h3.imp id fun ⟨m', h4, h5⟩ => ⟨m', ht _ _ h4, h5⟩⟩
    | succ k =>
      simp only [masks, List.getElem?_cons_succ] at hm ho
      refine masks_bit r (i0 + 1) _ (fun j m hj => ?_) (fun k hk => ?_) k m i o hm ho hb
      · rw [PT.get_set] at hj
        split at hj
        · rename_i hji; subst hji; cases hj; exact h0
        · exact ht _ _ hj
      · have := hf (k + 1) (by simpa using hk)
        simp only [masks, List.getElem?_cons_succ] at this
        rw [this]; congr 1; omega

theorem masks_length : ∀ (ops : List Oper) (i0 : Nat) (tab : PT Nat), (masks ops i0 tab).length = ops.length
  | [], _, _ => rfl
  | o :: r, i0, tab => by simp [masks, masks_length r]

def bits (ops : List Oper) : List Nat := masks ops 0 .leaf

theorem bits_bit {ops : List Oper} {k m i : Nat} {o : Oper} (hm : (bits ops)[k]? = some m) (ho : ops[k]? = some o) (hb : m.testBit i = true) :
    ∃ e ∈ o.after.toList, Region.binds .any e = true ∧ (i = e.on ∨ ∃ m', (bits ops)[e.on]? = some m' ∧ m'.testBit i = true) :=
  masks_bit (full := fun k => (bits ops)[k]?) ops 0 .leaf (fun j m h => by rw [PT.get_leaf] at h; cases h) (fun k _ => by simp [bits]) k m i o hm ho hb

theorem edgesOk_lt : ∀ {ops : List Oper} {i0 : Nat}, edgesOk ops i0 = true → ∀ (k : Nat) (o : Oper), ops[k]? = some o → ∀ e ∈ o.after.toList, Region.binds .any e = true → e.on < i0 + k
  | [], _, _, k, o, ho, _, _, _ => by simp at ho
  | o0 :: r, i0, h, k, o, ho, e, he, hb => by
    simp only [edgesOk, Bool.and_eq_true, List.all_eq_true] at h
    cases k with
    | zero =>
      simp at ho; subst ho
      have := h.1 e he
      simp only [hb, Bool.not_true, Bool.false_or] at this
      simpa using (Nat.blt_eq).mp this
    | succ k =>
      have := edgesOk_lt h.2 k o (by simpa using ho) e he hb
      omega

theorem bits_lt {ops : List Oper} (h : edgesOk ops 0 = true) : ∀ (k m i : Nat), (bits ops)[k]? = some m → m.testBit i = true → i < k := by
  intro k
  induction k using Nat.strongRecOn with
  | _ k ih =>
    intro m i hm hb
    have hk : k < ops.length := by
      have := (List.getElem?_eq_some_iff.1 hm).1
      rwa [bits, masks_length] at this
    have ho : ops[k]? = some ops[k] := by simp [hk]
    obtain ⟨e, h1, h2, h3⟩ := bits_bit hm ho hb
    have hlt := edgesOk_lt h k _ ho e h1 h2
    rw [Nat.zero_add] at hlt
    rcases h3 with rfl | ⟨m', h4, h5⟩
    · exact hlt
    · have := ih e.on hlt m' i h4 h5
      omega

theorem withMasks_get {ops : List Oper} {k : Nat} {o : Oper} {m : Nat} : (withMasks ops)[k]? = some (o, m) ↔ ops[k]? = some o ∧ (bits ops)[k]? = some m := by
  unfold withMasks bits
  rw [List.getElem?_zip_eq_some]

theorem withMasks_length (ops : List Oper) : (withMasks ops).length = ops.length := by
  unfold withMasks
  rw [List.length_zip, masks_length, Nat.min_self]

/-! ## Effects -/
theorem effects_get {E : Env} : ∀ {l : List (Oper × Nat)} {i0 j i m : Nat}, (effects E l i0)[j]? = some (i, m) → ∃ k o, i = i0 + k ∧ l[k]? = some (o, m) ∧ kindOp E o = 2
  | [], _, _, _, _, h => by simp [effects] at h
  | (o, m0) :: r, i0, j, i, m, h => by
    unfold effects at h
    split at h
    · rename_i hk
      cases j with
      | zero => simp at h; exact ⟨0, o, by omega, by simp [h.2], Nat.eq_of_beq_eq_true hk⟩
      | succ j =>
        obtain ⟨k, o', h1, h2, h3⟩ := effects_get (by simpa using h)
        exact ⟨k + 1, o', by omega, by simpa using h2, h3⟩
    · obtain ⟨k, o', h1, h2, h3⟩ := effects_get h
      exact ⟨k + 1, o', by omega, by simpa using h2, h3⟩

theorem effects_ge {E : Env} {l : List (Oper × Nat)} {i0 j i m : Nat} (h : (effects E l i0)[j]? = some (i, m)) : i0 ≤ i := by
  obtain ⟨k, _, h1, _⟩ := effects_get h
  omega

theorem effects_inj {E : Env} : ∀ {l : List (Oper × Nat)} {i0 j j' i m m' : Nat}, (effects E l i0)[j]? = some (i, m) → (effects E l i0)[j']? = some (i, m') → j = j'
  | [], _, _, _, _, _, _, h, _ => by simp [effects] at h
  | (o, m0) :: r, i0, j, j', i, m, m', h, h' => by
    unfold effects at h h'
    split at h
    · rename_i hk
      rw [if_pos hk] at h'
      cases j with
      | zero =>
        simp at h
        cases j' with
        | zero => rfl
        | succ j' =>
          have h2 : (effects E r (i0 + 1))[j']? = some (i, m') := by simpa using h'
          have := effects_ge h2; omega
      | succ j =>
        cases j' with
        | zero =>
          simp at h'
          have h2 : (effects E r (i0 + 1))[j]? = some (i, m) := by simpa using h
          have := effects_ge h2; omega
        | succ j' =>
          have h2 : (effects E r (i0 + 1))[j]? = some (i, m) := by simpa using h
          have h3 : (effects E r (i0 + 1))[j']? = some (i, m') := by simpa using h'
          have := effects_inj h2 h3; omega
    · rename_i hk
      rw [if_neg hk] at h'
      exact effects_inj h h'

theorem effects_of {E : Env} : ∀ {l : List (Oper × Nat)} {i0 k m : Nat} {o : Oper}, l[k]? = some (o, m) → kindOp E o = 2 → ∃ j : Nat, (effects E l i0)[j]? = some (i0 + k, m)
  | [], _, _, _, _, h, _ => by simp at h
  | (o0, m0) :: r, i0, k, m, o, h, hk => by
    unfold effects
    cases k with
    | zero =>
      simp at h
      rw [if_pos (by rw [h.1, hk]; rfl)]
      exact ⟨0, by simp [h.2]⟩
    | succ k =>
      obtain ⟨j, hj⟩ := effects_of (i0 := i0 + 1) (k := k) (by simpa using h) hk
      split
      · exact ⟨j + 1, by simp [hj]; omega⟩
      · exact ⟨j, by rw [hj]; simp; omega⟩

theorem inRows_get : ∀ {l : List (Nat × Nat)} {j i m i' m' : Nat}, inRows l = true → l[j]? = some (i, m) → l[j + 1]? = some (i', m') → m'.testBit i = true
  | [], _, _, _, _, _, _, h, _ => by simp at h
  | [_], j, _, _, _, _, _, _, h => by simp at h
  | (a, b) :: (c, d) :: r, j, i, m, i', m', h, h1, h2 => by
    simp only [inRows, Bool.and_eq_true] at h
    cases j with
    | zero => simp at h1 h2; rw [← h2.2, ← h1.1]; exact h.1
    | succ j => exact inRows_get h.2 (by simpa using h1) (by simpa using h2)

theorem least_bit {m : Nat} : ∀ {l : List (Nat × Nat)} {j i m' : Nat}, j < least m l → l[j]? = some (i, m') → m.testBit i = true
  | [], _, _, _, h, _ => by simp [least] at h
  | (a, b) :: r, j, i, m', h, h1 => by
    unfold least at h
    split at h
    · rename_i hb
      cases j with
      | zero => simp at h1; rw [← h1.1]; exact hb
      | succ j =>
        have h2 : j < least m r := by omega
        exact least_bit h2 (by simpa using h1)
    · omega

theorem least_le {m : Nat} : ∀ (l : List (Nat × Nat)), least m l ≤ l.length
  | [] => Nat.le_refl _
  | (a, b) :: r => by
    unfold least
    split
    · have := least_le (m := m) r; simp; omega
    · simp

theorem most_bit {k : Nat} : ∀ {l : List (Nat × Nat)}, most k l < l.length → ∃ i m, l[most k l]? = some (i, m) ∧ m.testBit k = true
  | [], h => by simp [most] at h
  | (a, b) :: r, h => by
    unfold most at h ⊢
    split
    · rename_i hb; exact ⟨a, b, by simp, hb⟩
    · rename_i hb
      rw [if_neg hb] at h
      obtain ⟨i, m, h1, h2⟩ := most_bit (k := k) (l := r) (by simp at h; omega)
      exact ⟨i, m, by rw [Nat.add_comm]; simpa using h1, h2⟩

/-! ## Writers -/
theorem writers_get : ∀ {ops : List Oper} {i0 : Nat} {t wr : PT Nat}, writers ops i0 t = some wr → (∀ d i, t.get d = some i → wr.get d = some i) ∧ (∀ k o d, ops[k]? = some o → o.dst = some d → wr.get d = some (i0 + k)) ∧
    (∀ d i, wr.get d = some i → t.get d = some i ∨ ∃ k o, i = i0 + k ∧ ops[k]? = some o ∧ o.dst = some d)
  | [], _, _, _, h => by cases h; exact ⟨fun _ _ h => h, fun k o d h => by simp at h, fun _ _ h => .inl h⟩
  | o :: r, i0, t, wr, h => by
    unfold writers at h
    split at h
    · rename_i hd
      obtain ⟨h1, h2, h3⟩ := writers_get h
      refine ⟨h1, fun k o' d ho hd' => ?_, fun d i hi => ?_⟩
      · cases k with
        | zero => simp at ho; subst ho; rw [hd] at hd'; cases hd'
        | succ k => rw [h2 k o' d (by simpa using ho) hd']; congr 1; omega
      · rcases h3 d i hi with h4 | ⟨k, o', h4, h5, h6⟩
        · exact .inl h4
        · exact .inr ⟨k + 1, o', by omega, by simpa using h5, h6⟩
    · rename_i d0 hd
      split at h
      · cases h
      · rename_i hn
        obtain ⟨h1, h2, h3⟩ := writers_get h
        refine ⟨fun d i hi => h1 d i ?_, fun k o' d ho hd' => ?_, fun d i hi => ?_⟩
        · rw [PT.get_set, if_neg (fun he => by subst he; rw [hn] at hi; cases hi)]; exact hi
        · cases k with
          | zero => simp at ho; subst ho; rw [hd] at hd'; cases hd'; exact h1 _ _ (by rw [PT.get_set, if_pos rfl]; rfl)
          | succ k => rw [h2 k o' d (by simpa using ho) hd']; congr 1; omega
        · rcases h3 d i hi with h4 | ⟨k, o', h4, h5, h6⟩
          · rw [PT.get_set] at h4
            split at h4
            · rename_i he; cases h4; exact .inr ⟨0, o, rfl, rfl, by rw [hd, he]⟩
            · exact .inl h4
          · exact .inr ⟨k + 1, o', by omega, by simpa using h5, h6⟩

theorem readsOk_get {E : Env} {ops : List Oper} {om : List (Oper × Nat)} {wr : PT Nat} : ∀ {l : List (Oper × Nat)} {i0 : Nat}, readsOk E ops om wr l i0 = true → ∀ {k : Nat} {o : Oper} {m : Nat}, l[k]? = some (o, m) → (∀ x ∈ o.op.operands, readOk2 E wr om (i0 + k) m x = true) ∧ guardOk ops wr m o = true
  | [], _, _, k, o, m, hk => by simp at hk
  | (o0, m0) :: r, i0, h, k, o, m, hk => by
    simp only [readsOk, Bool.and_eq_true, List.all_eq_true] at h
    cases k with
    | zero => simp at hk; obtain ⟨rfl, rfl⟩ := hk; exact ⟨fun x hx => h.1.1 x (by simpa using hx), h.1.2⟩
    | succ k => rw [show i0 + (k + 1) = i0 + 1 + k by omega]; exact readsOk_get h.2 (by simpa using hk)

/-! ## The end is reached -/
/-- What is ready when nothing is: set. -/
theorem ready_set {md : Region.Mode} {ops : Array Oper} {T : Array Bool} (hsz : T.size = ops.size) (hr : Region.ready md ops T = []) {k : Nat} {o : Oper} (ho : ops[k]? = some o) (hall : ∀ e ∈ o.after, Region.binds md e = true → T.getD e.on false = true) : T.getD k false = true := by
  cases ht : T.getD k false with
  | true => rfl
  | false =>
    have hlt : k < T.size := by rw [hsz]; exact (Array.getElem?_eq_some_iff.1 ho).1
    have : k ∈ Region.ready md ops T := by
      rw [mem_ready]
      refine ⟨?_, o, ho, hall⟩
      simp only [Array.getD_eq_getD_getElem?, Array.getElem?_eq_getElem hlt, Option.getD_some] at ht ⊢
      exact ht
    rw [hr] at this; cases this

theorem needOf_bit {md : Region.Mode} : ∀ {l : List Edge} {e : Edge}, e ∈ l → Region.binds md e = true → (needOf md l).testBit e.on = true
  | [], e, h, _ => by simp at h
  | x :: l, e, h, hb => by
    unfold needOf
    rcases List.mem_cons.1 h with rfl | h
    · rw [hb]
      change (2 ^ e.on ||| needOf md l).testBit e.on = true
      rw [Nat.testBit_or, Nat.testBit_two_pow]; simp
    · cases Region.binds md x with
      | false => exact needOf_bit h hb
      | true =>
        change (2 ^ x.on ||| needOf md l).testBit e.on = true
        rw [Nat.testBit_or, needOf_bit h hb]; simp

theorem passOnce_ok {md : Region.Mode} {ops : Array Oper} {T : Array Bool} (hsz : T.size = ops.size) (hr : Region.ready md ops T = []) : ∀ (l : List Oper) (i s : Nat), (∀ k, l[k]? = ops[i + k]?) → (∀ j, s.testBit j = true → T.getD j false = true) → ∀ j, (passOnce md l i s).testBit j = true → T.getD j false = true
  | [], _, _, _, hs, j, h => hs j h
  | o :: l, i, s, hl, hs, j, h => by
    have hl' : ∀ k, l[k]? = ops[i + 1 + k]? := fun k => by
      have := hl (k + 1)
      rw [List.getElem?_cons_succ] at this
      rw [this]; congr 1; omega
    have ho : ops[i]? = some o := by
      have := hl 0
      rw [Nat.add_zero] at this
      rw [← this]; rfl
    unfold passOnce at h
    cases hb : Nat.beq (Nat.land (needOf md o.after.toList) s) (needOf md o.after.toList) with
    | false => rw [hb] at h; exact passOnce_ok hsz hr l (i + 1) s hl' hs j h
    | true =>
      rw [hb] at h
      have he : needOf md o.after.toList &&& s = needOf md o.after.toList := Nat.eq_of_beq_eq_true hb
      have hi : T.getD i false = true := ready_set hsz hr ho fun e hem heb => by
        have h1 := needOf_bit (l := o.after.toList) (by simpa using hem) heb
        rw [← he, Nat.testBit_and, Bool.and_eq_true] at h1
        exact hs _ h1.2
      refine passOnce_ok hsz hr l (i + 1) (s ||| 2 ^ i) hl' (fun j hj => ?_) j h
      rw [Nat.testBit_or, Bool.or_eq_true] at hj
      rcases hj with hj | hj
      · exact hs j hj
      · rw [Nat.testBit_two_pow] at hj
        have := of_decide_eq_true hj
        subst this; exact hi

/-- Whatever was set till nothing is ready, it is all. -/
def Gets (md : Region.Mode) (ops : Array Oper) : Prop := ∀ T : Array Bool, T.size = ops.size → Region.ready md ops T = [] → ∀ i, i < ops.size → T.getD i false = true

theorem reaches_gets {md : Region.Mode} {ops : List Oper} : ∀ {n : Nat} (s : Nat), reaches md ops (Nat.sub (Nat.pow 2 ops.length) 1) n s = true → ∀ T : Array Bool, T.size = ops.toArray.size → Region.ready md ops.toArray T = [] → (∀ j, s.testBit j = true → T.getD j false = true) → ∀ i, i < ops.length → T.getD i false = true
  | 0, _, h, _, _, _, _, _, _ => by simp [reaches] at h
  | n + 1, s, h, T, hsz, hr, hs, i, hi => by
    have hp := passOnce_ok hsz hr ops 0 s (fun k => by simp) hs
    unfold reaches at h
    cases hb : Nat.beq (passOnce md ops 0 s) (Nat.sub (Nat.pow 2 ops.length) 1) with
    | false => rw [hb] at h; exact reaches_gets _ h T hsz hr hp i hi
    | true =>
      have he : passOnce md ops 0 s = 2 ^ ops.length - 1 := Nat.eq_of_beq_eq_true hb
      refine hp i ?_
      rw [he, Nat.testBit_two_pow_sub_one]
      simpa using hi

theorem gets_of_reaches {md : Region.Mode} {ops : List Oper} {n : Nat} (h : reaches md ops (Nat.sub (Nat.pow 2 ops.length) 1) n 0 = true) : Gets md ops.toArray := fun T hsz hr i hi =>
  reaches_gets 0 h T hsz hr (fun j hj => by simp at hj) i (by simpa using hi)

theorem gets_any {ops : List Oper} (h : edgesOk ops 0 = true) : Gets .any ops.toArray := fun T hsz hr i => by
  induction i using Nat.strongRecOn with
  | _ i ih =>
    intro hi
    have hi' : i < ops.length := by simpa using hi
    refine ready_set (k := i) (o := ops[i]) hsz hr (by simp [hi']) fun e he hb => ?_
    have := edgesOk_lt h i ops[i] (by simp [hi']) e (by simpa using he) hb
    exact ih e.on (by omega) (by simp; omega)

theorem departs_of_stays {ops : List Oper} (h : stays ops = true) : Region.departs ops.toArray = false := by
  unfold stays at h
  rw [List.all_eq_true] at h
  unfold Region.departs
  rw [Array.any_eq_false']
  intro o ho
  have h1 := h o (by simpa using ho)
  rw [List.all_eq_true] at h1
  rw [Bool.not_eq_true, Array.any_eq_false']
  intro e he
  rw [h1 e (by simpa using he)]; simp
end SS

namespace SS
open Go

def hist (d : DS) (e : Nat) : Option St := if e ≤ d.t then d.past[d.t - e]? else none

inductive Does (E : Env) (call : SS.Call) (ops : List Oper) (effs : List (Nat × Nat)) (fr : Fr) (F : Nat → Option St) (tF i : Nat) (o : Oper) (m : Nat) : V → Prop
  | skip : wants ops o fr = some false → kindOp E o ≠ 2 → Does E call ops effs fr F tF i o m (.tup [])
  | skip2 (e : Nat) (σ : St) : wants ops o fr = some false → kindOp E o = 2 → effs[e]? = some (i, m) → F e = some σ → F (e + 1) = some σ → Does E call ops effs fr F tF i o m (.tup [])
  | pure (v : V) : wants ops o fr = some true → kindOp E o = 0 → (∀ τ, eOp E call fr.ev o τ = some (v, τ)) → Does E call ops effs fr F tF i o m v
  | read (v : V) : wants ops o fr = some true → kindOp E o = 1 → (∀ e, least m effs ≤ e → e ≤ most i effs → e ≤ tF → ∃ σ, F e = some σ ∧ eOp E call fr.ev o σ = some (v, σ)) → Does E call ops effs fr F tF i o m v
  | eff (v : V) (e : Nat) (σ σ' : St) : wants ops o fr = some true → kindOp E o = 2 → effs[e]? = some (i, m) → F e = some σ → F (e + 1) = some σ' → eOp E call fr.ev o σ = some (v, σ') → Does E call ops effs fr F tF i o m v

theorem samePast_get {E : Env} {p : Pend} {lo : Nat} : ∀ {past : List St} {t : Nat}, samePast E p lo t past = true → past.length = t + 1 → ∀ e, lo ≤ e → e ≤ t → ∃ σ, past[t - e]? = some σ ∧ sameAt E p σ = true
  | [], t, _, hl, _, _, _ => by simp at hl
  | σ :: r, t, h, hl, e, h1, h2 => by
    unfold samePast at h
    split at h
    · rename_i hb; have := (Nat.blt_eq).mp hb; omega
    · simp only [Bool.and_eq_true] at h
      by_cases he : e = t
      · subst he; exact ⟨σ, by simp, h.1⟩
      · cases t with
        | zero => omega
        | succ t =>
          obtain ⟨τ, h3, h4⟩ := samePast_get (past := r) (t := t) h.2 (by simpa using hl) e h1 (by omega)
          refine ⟨τ, ?_, h4⟩
          have : t + 1 - e = (t - e) + 1 := by omega
          rw [this]; simpa using h3

theorem put_same {fr fr' : Fr} {dst : Option Nat} {v : V} (h : fr.put dst v = some fr') : fr'.n = fr.n ∧ fr'.d = fr.d ∧ (∀ t, dst ≠ some t → fr'.t.get t = fr.t.get t) ∧ ∀ t, dst = some t → fr'.t.get t = some v ∧ t < fr'.n := by
  unfold Fr.put at h
  split at h
  · rename_i d
    split at h
    · rename_i hlt
      cases h
      refine ⟨rfl, rfl, fun t ht => ?_, fun t ht => ?_⟩
      · show (PT.set _ _ _).get t = _
        rw [PT.get_set, if_neg (fun he => ht (by rw [he]))]
      · cases ht
        exact ⟨by show (PT.set _ _ _).get _ = _; rw [PT.get_set, if_pos rfl], (Nat.blt_eq).mp hlt⟩
    · cases h
  · cases h; exact ⟨rfl, rfl, fun _ _ => rfl, fun t ht => by cases ht⟩

section
variable {E : Env} {call : SS.Call} {ops : List Oper} {effs : List (Nat × Nat)}

theorem no_defer {o : Oper} (h : kindOp E o < 4) : ∀ c, o.op ≠ .defer c := by
  intro c hc
  simp [kindOp, hc] at h

theorem aStep_eOp {o : Oper} {fr fr' : Fr} {σ σ' : St} (hk : kindOp E o < 4) (h : aStep E call ops o fr σ = some (fr', σ')) :
    (wants ops o fr = some true ∧ ∃ v, eOp E call fr.ev o σ = some (v, σ') ∧ fr.put o.dst v = some fr') ∨ (wants ops o fr = some false ∧ σ' = σ ∧ fr.put o.dst (.tup []) = some fr') := by
  unfold aStep at h
  split at h
  · rename_i hw; exact .inl ⟨hw, aOper_eOp (no_defer hk) h⟩
  · rename_i hw
    split at h
    · rename_i fr1 hp; cases h; exact .inr ⟨hw, rfl, hp⟩
    · cases h
  · cases h

/-- One step. -/
theorem dStep_facts {i m : Nat} {o : Oper} {d d1 : DS} (h : dStep E call ops effs i o m d = some d1) (hl : d.past.length = d.t + 1) :
    d1.past.length = d1.t + 1 ∧ (∀ e, e ≤ d.t → hist d1 e = hist d e) ∧
    ((kindOp E o = 3 ∧ d1 = d) ∨
     (kindOp E o = 2 ∧ d1.t = d.t + 1 ∧ d1.pend = d.pend ∧ ∃ σ σ', hist d d.t = some σ ∧ hist d1 (d.t + 1) = some σ' ∧ aStep E call ops o d.fr σ = some (d1.fr, σ') ∧ ∀ p ∈ d.pend, d.t + 1 ≤ p.hi → sameAt E p σ' = true) ∨
     (kindOp E o = 1 ∧ d1.t = d.t ∧ ((wants ops o d.fr = some false ∧ d1.pend = d.pend ∧ d.fr.put o.dst (.tup []) = some d1.fr) ∨
       (wants ops o d.fr = some true ∧ ∃ v, d.fr.put o.dst v = some d1.fr ∧ d1.pend = { o, fr := d.fr, v, hi := most i effs } :: d.pend ∧
         ∀ e, least m effs ≤ e → e ≤ d.t → ∃ σ, hist d e = some σ ∧ sameAt E { o, fr := d.fr, v, hi := most i effs } σ = true))) ∨
     (kindOp E o = 0 ∧ d1.t = d.t ∧ d1.pend = d.pend ∧ ∃ σ σ', aStep E call ops o d.fr σ = some (d1.fr, σ'))) := by
  unfold dStep at h
  split at h
  · rename_i hk3; cases h; exact ⟨hl, fun _ _ => rfl, .inl ⟨hk3, rfl⟩⟩
  · rename_i σ ps hp hk2
    split at h
    · rename_i fr' σ' h1
      split at h
      · rename_i hall
        cases h
        refine ⟨by simp [← hp, hl], fun e he => ?_, .inr (.inl ⟨hk2, rfl, rfl, σ, σ', ?_, ?_, h1, fun p hpm hh => ?_⟩)⟩
        · unfold hist
          simp only
          rw [if_pos (by omega), if_pos he, hp]
          have : d.t + 1 - e = (d.t - e) + 1 := by omega
          rw [this, List.getElem?_cons_succ]
        · unfold hist; rw [if_pos (Nat.le_refl _), hp]; simp
        · unfold hist; simp
        · have := List.all_eq_true.1 hall p hpm
          rw [Bool.or_eq_true] at this
          rcases this with this | this
          · have := (Nat.blt_eq).mp this; omega
          · exact this
      · cases h
    · cases h
  · rename_i σ ps hp hk1
    split at h
    · rename_i hw
      split at h
      · rename_i fr' h1
        cases h
        exact ⟨hl, fun _ _ => rfl, .inr (.inr (.inl ⟨hk1, rfl, .inl ⟨hw, rfl, h1⟩⟩))⟩
      · cases h
    · rename_i hw
      split at h
      · rename_i v h1
        split at h
        · rename_i fr' h2
          simp only at h
          split at h
          · rename_i h3
            cases h
            refine ⟨hl, fun _ _ => rfl, .inr (.inr (.inl ⟨hk1, rfl, .inr ⟨hw, v, h2, rfl, fun e h4 h5 => ?_⟩⟩))⟩
            obtain ⟨τ, h6, h7⟩ := samePast_get h3 (by rw [← hp]; exact hl) e h4 h5
            exact ⟨τ, by unfold hist; rw [if_pos h5, hp]; exact h6, h7⟩
          · cases h
        · cases h
      · cases h
    · cases h
  · rename_i σ ps hp hk0
    split at h
    · rename_i fr' σ' h1
      cases h
      exact ⟨hl, fun _ _ => rfl, .inr (.inr (.inr ⟨hk0, rfl, rfl, σ, σ', h1⟩))⟩
    · cases h
  · cases h

structure RunFacts (E : Env) (call : SS.Call) (ops : List Oper) (effs : List (Nat × Nat)) (l : List (Oper × Nat)) (i : Nat) (d dF : DS) : Prop where
  len : dF.past.length = dF.t + 1
  tt : dF.t = d.t + (effects E l i).length
  hh : ∀ e, e ≤ d.t → hist dF e = hist d e
  nn : dF.fr.n = d.fr.n
  dd : dF.fr.d = d.fr.d
  same : ∀ t, (∀ (k : Nat) (o : Oper) (m : Nat), l[k]? = some (o, m) → kindOp E o ≠ 3 → o.dst ≠ some t) → dF.fr.t.get t = d.fr.t.get t
  pend : ∀ p ∈ d.pend, ∀ e, d.t < e → e ≤ dF.t → e ≤ p.hi → ∃ σ, hist dF e = some σ ∧ sameAt E p σ = true
  does : ∀ (k : Nat) (o : Oper) (m : Nat), l[k]? = some (o, m) → kindOp E o ≠ 3 → ∃ fr v, Does E call ops effs fr (hist dF) dF.t (i + k) o m v ∧ (∀ t, o.dst = some t → dF.fr.t.get t = some v ∧ t < dF.fr.n) ∧
    (∀ t, (∀ (k' : Nat) (o' : Oper) (m' : Nat), k ≤ k' → l[k']? = some (o', m') → kindOp E o' ≠ 3 → o'.dst ≠ some t) → dF.fr.t.get t = fr.t.get t) ∧
    ∀ t, (∀ (k' : Nat) (o' : Oper) (m' : Nat), k' < k → l[k']? = some (o', m') → kindOp E o' ≠ 3 → o'.dst ≠ some t) → fr.t.get t = d.fr.t.get t

theorem dRun_facts : ∀ (l : List (Oper × Nat)) (i : Nat) (d dF : DS), dRun E call ops effs l i d = some dF → d.past.length = d.t + 1 → effects E l i = effs.drop d.t →
    (∀ (k : Nat) (o : Oper) (m : Nat), l[k]? = some (o, m) → kindOp E o < 4) →
    (∀ (k k' : Nat) (o : Oper) (m : Nat) (o' : Oper) (m' t : Nat), l[k]? = some (o, m) → l[k']? = some (o', m') → o.dst = some t → o'.dst = some t → k = k') → RunFacts E call ops effs l i d dF := by
  intro l
  induction l with
  | nil =>
    intro i d dF h hl he _ _
    cases h
    exact ⟨hl, rfl, fun _ _ => rfl, rfl, rfl, fun _ _ => rfl, fun _ _ e h1 h2 => absurd h2 (by omega), fun k o m h => by simp at h⟩
  | cons om r ih =>
    obtain ⟨o, m⟩ := om
    intro i d dF h hl he hk hssa
    unfold dRun at h
    split at h
    · rename_i d1 h1
      have hko := hk 0 o m rfl
      obtain ⟨hl1, hh1, hcase⟩ := dStep_facts h1 hl
      have hk' : ∀ (k : Nat) (o' : Oper) (m' : Nat), r[k]? = some (o', m') → kindOp E o' < 4 := fun k o' m' hr => hk (k + 1) o' m' (by simpa using hr)
      have hssa' : ∀ (k k' : Nat) (o : Oper) (m : Nat) (o' : Oper) (m' t : Nat), r[k]? = some (o, m) → r[k']? = some (o', m') → o.dst = some t → o'.dst = some t → k = k' := fun k k' o m o' m' t h1 h2 h3 h4 => by
        have := hssa (k + 1) (k' + 1) o m o' m' t (by simpa using h1) (by simpa using h2) h3 h4
        omega
      have hfresh : ∀ t, o.dst = some t → ∀ (k : Nat) (o' : Oper) (m' : Nat), r[k]? = some (o', m') → kindOp E o' ≠ 3 → o'.dst ≠ some t := fun t ht k o' m' hr _ ht' => by
        have := hssa 0 (k + 1) o m o' m' t rfl (by simpa using hr) ht ht'
        omega
      by_cases hk2 : kindOp E o = 2
      · rcases hcase with ⟨hx, _⟩ | ⟨_, ht, hp, σ, σ', hs, hs', hstep, hall⟩ | ⟨hx, _⟩ | ⟨hx, _⟩
        · omega
        · have heff : effects E ((o, m) :: r) i = (i, m) :: effects E r (i + 1) := by
            show (if Nat.beq (kindOp E o) 2 = true then _ else _) = _
            rw [if_pos (by rw [hk2]; rfl)]
          rw [heff] at he
          have he1 : effs[d.t]? = some (i, m) := by
            have : (effs.drop d.t)[0]? = some (i, m) := by rw [← he]; rfl
            simpa using this
          have he2 : effects E r (i + 1) = effs.drop d1.t := by
            have : (effs.drop d.t).drop 1 = effects E r (i + 1) := by rw [← he]; rfl
            rw [List.drop_drop] at this
            rw [ht]; exact this.symm
          have F := ih (i + 1) d1 dF h hl1 he2 hk' hssa'
          have hd1 : ∃ v, d.fr.put o.dst v = some d1.fr ∧ Does E call ops effs d.fr (hist dF) dF.t i o m v := by
            have hF1 : hist dF d.t = some σ := by rw [F.hh d.t (by omega), hh1 d.t (Nat.le_refl _)]; exact hs
            have hF2 : hist dF (d.t + 1) = some σ' := by rw [F.hh (d.t + 1) (by omega)]; exact hs'
            rcases aStep_eOp hko hstep with ⟨hw, v, h2, h3⟩ | ⟨hw, h2, h3⟩
            · exact ⟨v, h3, .eff v d.t σ σ' hw hk2 he1 hF1 hF2 h2⟩
            · subst h2; exact ⟨_, h3, .skip2 d.t _ hw hk2 he1 hF1 hF2⟩
          obtain ⟨v, hput, hdoes⟩ := hd1
          obtain ⟨p1, p2, p3, p4⟩ := put_same hput
          refine ⟨F.len, ?_, fun e he => by rw [F.hh e (by omega)]; exact hh1 e he, F.nn.trans p1, F.dd.trans p2, fun t ht' => ?_, fun p hpm e h2 h3 h4 => ?_, fun k o' m' hr hk3 => ?_⟩
          · rw [F.tt, ht, heff]; simp; omega
          · rw [F.same t fun k o' m' hr => ht' (k + 1) o' m' (by simpa using hr)]
            exact p3 t (ht' 0 o m rfl (by omega))
          · by_cases hee : e = d.t + 1
            · subst hee
              exact ⟨σ', by rw [F.hh (d.t + 1) (by omega)]; exact hs', hall p hpm h4⟩
            · exact F.pend p (by rw [hp]; exact hpm) e (by omega) h3 h4
          · cases k with
            | zero =>
              simp at hr; obtain ⟨rfl, rfl⟩ := hr
              refine ⟨d.fr, v, by simpa using hdoes, fun t ht' => ?_, fun t ht' => ?_, fun _ _ => rfl⟩
              · rw [F.same t (hfresh t ht'), F.nn]; exact p4 t ht'
              · rw [F.same t fun k o' m' hr => ht' (k + 1) o' m' (by omega) (by simpa using hr)]
                exact p3 t (ht' 0 _ _ (by omega) rfl (by omega))
            | succ k =>
              obtain ⟨fr, u, h2, h3, h4, h5⟩ := F.does k o' m' (by simpa using hr) hk3
              refine ⟨fr, u, by rw [show i + (k + 1) = i + 1 + k by omega]; exact h2, h3, fun t ht' => h4 t fun k' o'' m'' hle hr' => ht' (k' + 1) o'' m'' (by omega) (by simpa using hr'), fun t ht' => (h5 t fun k' o'' m'' hle hr' => ht' (k' + 1) o'' m'' (by omega) (by simpa using hr')).trans (p3 t (ht' 0 o m (by omega) rfl (by omega)))⟩
        · omega
        · omega
      · have heff : effects E ((o, m) :: r) i = effects E r (i + 1) := by
          show (if Nat.beq (kindOp E o) 2 = true then _ else _) = _
          rw [if_neg (fun hb => hk2 (Nat.eq_of_beq_eq_true hb))]
        rw [heff] at he
        have ht : d1.t = d.t := by
          rcases hcase with ⟨_, hx⟩ | ⟨hx, _⟩ | ⟨_, hx, _⟩ | ⟨_, hx, _⟩
          · rw [hx]
          · exact absurd hx hk2
          · exact hx
          · exact hx
        have F := ih (i + 1) d1 dF h hl1 (by rw [ht]; exact he) hk' hssa'
        -- what the step put
        have hmain : (kindOp E o = 3 ∧ d1 = d) ∨ (kindOp E o ≠ 3 ∧ ∃ v, d.fr.put o.dst v = some d1.fr ∧ (∀ p ∈ d.pend, p ∈ d1.pend) ∧ Does E call ops effs d.fr (hist dF) dF.t i o m v) := by
          rcases hcase with ⟨hx, hx'⟩ | ⟨hx, _⟩ | ⟨hx, _, hx'⟩ | ⟨hx, _, hp, σ, σ', hstep⟩
          · exact .inl ⟨hx, hx'⟩
          · exact absurd hx hk2
          · right
            refine ⟨by omega, ?_⟩
            rcases hx' with ⟨hw, hp, hput⟩ | ⟨hw, v, hput, hp, hpast⟩
            · exact ⟨_, hput, fun p hpm => by rw [hp]; exact hpm, .skip hw (by omega)⟩
            · refine ⟨v, hput, fun p hpm => by rw [hp]; exact List.mem_cons_of_mem _ hpm, .read v hw hx fun e h2 h3 h4 => ?_⟩
              have : ∃ σ, hist dF e = some σ ∧ sameAt E { o, fr := d.fr, v, hi := most i effs } σ = true := by
                by_cases hle : e ≤ d.t
                · obtain ⟨σ, h5, h6⟩ := hpast e h2 hle
                  exact ⟨σ, by rw [F.hh e (by omega), hh1 e hle]; exact h5, h6⟩
                · exact F.pend _ (by rw [hp]; exact List.mem_cons_self) e (by omega) h4 h3
              obtain ⟨σ, h5, h6⟩ := this
              refine ⟨σ, h5, ?_⟩
              unfold sameAt at h6
              simp only at h6
              split at h6
              · rename_i v' hv'
                have := V.beq_eq _ _ h6
                subst this
                exact kind1 hx hv'
              · cases h6
          · right
            refine ⟨by omega, ?_⟩
            rcases aStep_eOp hko hstep with ⟨hw, v, h2, h3⟩ | ⟨hw, h2, h3⟩
            · exact ⟨v, h3, fun p hpm => by rw [hp]; exact hpm, .pure v hw hx fun τ => kind0 hx h2 τ⟩
            · exact ⟨_, h3, fun p hpm => by rw [hp]; exact hpm, .skip hw (by omega)⟩
        rcases hmain with ⟨hk3, hdd⟩ | ⟨hk3, v, hput, hpp, hdoes⟩
        · subst hdd
          refine ⟨F.len, by rw [F.tt, heff], fun e he => F.hh e he, F.nn, F.dd, fun t ht' => F.same t fun k o' m' hr => ht' (k + 1) o' m' (by simpa using hr), F.pend, fun k o' m' hr hk3' => ?_⟩
          cases k with
          | zero => simp at hr; obtain ⟨rfl, rfl⟩ := hr; exact absurd hk3 hk3'
          | succ k =>
            obtain ⟨fr, u, h2, h3, h4, h5⟩ := F.does k o' m' (by simpa using hr) hk3'
            refine ⟨fr, u, by rw [show i + (k + 1) = i + 1 + k by omega]; exact h2, h3, fun t ht' => h4 t fun k' o'' m'' hle hr' => ht' (k' + 1) o'' m'' (by omega) (by simpa using hr'), fun t ht' => h5 t fun k' o'' m'' hle hr' => ht' (k' + 1) o'' m'' (by omega) (by simpa using hr')⟩
        · obtain ⟨p1, p2, p3, p4⟩ := put_same hput
          refine ⟨F.len, by rw [F.tt, ht, heff], fun e he => by rw [F.hh e (by omega)]; exact hh1 e he, F.nn.trans p1, F.dd.trans p2, fun t ht' => ?_, fun p hpm e h2 h3 h4 => F.pend p (hpp p hpm) e (by omega) h3 h4, fun k o' m' hr hk3' => ?_⟩
          · rw [F.same t fun k o' m' hr => ht' (k + 1) o' m' (by simpa using hr)]
            exact p3 t (ht' 0 o m rfl hk3)
          · cases k with
            | zero =>
              simp at hr; obtain ⟨rfl, rfl⟩ := hr
              refine ⟨d.fr, v, by simpa using hdoes, fun t ht' => ?_, fun t ht' => ?_, fun _ _ => rfl⟩
              · rw [F.same t (hfresh t ht'), F.nn]; exact p4 t ht'
              · rw [F.same t fun k o' m' hr => ht' (k + 1) o' m' (by omega) (by simpa using hr)]
                exact p3 t (ht' 0 _ _ (by omega) rfl hk3)
            | succ k =>
              obtain ⟨fr, u, h2, h3, h4, h5⟩ := F.does k o' m' (by simpa using hr) hk3'
              refine ⟨fr, u, by rw [show i + (k + 1) = i + 1 + k by omega]; exact h2, h3, fun t ht' => h4 t fun k' o'' m'' hle hr' => ht' (k' + 1) o'' m'' (by omega) (by simpa using hr'), fun t ht' => (h5 t fun k' o'' m'' hle hr' => ht' (k' + 1) o'' m'' (by omega) (by simpa using hr')).trans (p3 t (ht' 0 o m (by omega) rfl hk3))⟩
    · cases h
end
end SS

namespace SS
open Go

/-! ## What is made of nothing, late -/
theorem step_hoist {P : Program} {ρ : Ren} {M : Mem} {σ σ1 : St} {w : World} (h : SR P ρ M σ w) (hn : σ.n ≤ σ1.n) (ht : σ1.tch = σ.tch) (hg : ∀ b, b < σ.n → σ1.get b = σ.get b) : Step P ρ M σ w ρ M σ1 w where
  sr := ⟨fun b e he => by rw [hg b (h.bd b e he)]; exact h.fits b e he, fun b e he => Nat.lt_of_lt_of_le (h.bd b e he) hn, h.inj, h.mem, h.disj⟩
  g := .refl _ _
  frame := fun _ _ _ => rfl
  size := Nat.le_refl _
  fresh := fun b e h => .inl ⟨b, e, h, rfl⟩
  old := fun _ e h _ => ⟨e, h⟩
  freshM := fun _ _ h => .inl h
  os := rfl
  tape := rfl
  output := rfl
  n := hn
  tch := by rw [ht]; exact Nat.le_refl _
  keep := fun b hb _ => hg b hb
  none := fun b hb _ => hg b hb
  held := fun _ _ h _ => ⟨h, rfl⟩

theorem step_late {P : Program} {ρ₀ ρ : Ren} {M₀ M : Mem} {σ₀ σ : St} {w₀ w w' : World} (s : Step P ρ₀ M₀ σ₀ w₀ ρ M σ w) {b : Nat} {e : Ent} {o' : Obj} {obj : AO} (h0 : σ₀.n ≤ b) (hb : b < σ.n) (hn : ρ b = none) (ho : σ.get b = some obj)
    (hw : w'.heap = w.heap.push o') (hos : w'.os = w.os) (htp : w'.tape = w.tape) (hout : w'.output = w.output) (hex : e.x = w.heap.size) (hf : Grows ρ M (ρ.upd b e) M → Fits P (ρ.upd b e) M w' e (some obj)) :
    Step P ρ₀ M₀ σ₀ w₀ (ρ.upd b e) M σ w' ∧ Grows ρ M (ρ.upd b e) M := by
  have h := s.sr
  have g : Grows ρ M (ρ.upd b e) M := ⟨fun b' e₀ he => ⟨e₀, (Ren.upd_other ρ e (fun hb => by subst hb; rw [hn] at he; cases he)).trans he, .inl rfl⟩, fun _ _ h => h⟩
  have hff := hf g
  have hheap : ∀ x, x < w.heap.size → w'.heap[x]? = w.heap[x]? := fun x hx => by rw [hw, Array.getElem?_push]; rw [if_neg (by omega)]
  refine ⟨⟨⟨?_, ?_, ?_, ?_, ?_⟩, s.g.trans g, fun x hx hne => ?_, by rw [hw]; have := s.size; simp; omega, ?_, ?_, s.freshM, hos.trans s.os, htp.trans s.tape, hout.trans s.output, s.n, s.tch, s.keep, s.none, fun b' e₀ he ht => ?_⟩, g⟩
  · intro b' e₀ he
    by_cases hbb : b' = b
    · subst hbb
      rw [Ren.upd_same] at he; cases he
      rw [ho]; exact hff
    · rw [Ren.upd_other _ _ hbb] at he
      exact (h.fits b' e₀ he).mono g (hheap _ (h.lt he))
  · intro b' e₀ he
    by_cases hbb : b' = b
    · subst hbb; exact hb
    · rw [Ren.upd_other _ _ hbb] at he; exact h.bd _ _ he
  · intro b' b'' e₀ e₁ he he' hx
    by_cases hbb : b' = b
    · by_cases hb' : b'' = b
      · rw [hbb, hb']
      · subst hbb
        rw [Ren.upd_same] at he; cases he
        rw [Ren.upd_other _ _ hb'] at he'
        have := h.lt he'; omega
    · by_cases hb' : b'' = b
      · subst hb'
        rw [Ren.upd_same] at he'; cases he'
        rw [Ren.upd_other _ _ hbb] at he
        have := h.lt he; omega
      · rw [Ren.upd_other _ _ hbb] at he
        rw [Ren.upd_other _ _ hb'] at he'
        exact h.inj _ _ _ _ he he' hx
  · intro x o ho
    have := h.mem x o ho
    rw [hheap x (Array.getElem?_eq_some_iff.1 this).1]; exact this
  · intro b' e₀ he
    by_cases hbb : b' = b
    · subst hbb
      rw [Ren.upd_same] at he; cases he
      cases hm : M e.x with
      | none => rfl
      | some o => have := (Array.getElem?_eq_some_iff.1 (h.mem _ _ hm)).1; omega
    · rw [Ren.upd_other _ _ hbb] at he; exact h.disj _ _ he
  · have := s.size
    rw [hheap x (by omega)]; exact s.frame x hx hne
  · intro b' e' he
    by_cases hbb : b' = b
    · subst hbb; rw [Ren.upd_same] at he; cases he
      have := s.size
      exact .inr (by omega)
    · rw [Ren.upd_other _ _ hbb] at he; exact s.fresh b' e' he
  · intro b' e' he hlt
    rw [Ren.upd_other _ _ (by omega)] at he; exact s.old b' e' he hlt
  · obtain ⟨h1, h2⟩ := s.held b' e₀ he ht
    exact ⟨(Ren.upd_other ρ e (fun hb => by subst hb; rw [hn] at h1; cases h1)).trans h1, (hheap _ (h.lt h1)).trans h2⟩

section
variable {E : Env}

theorem St.new_inj {σ : St} {a b : AO} (h : σ.new a = σ.new b) : a = b := by
  have h1 : (σ.new a).get σ.n = some a := by rw [St.get_new, if_pos rfl]
  rw [h, St.get_new, if_pos rfl] at h1
  exact (Option.some.inj h1).symm

/-- What an operation makes that is run ahead of its turn. -/
def HoistIs (E : Env) (ev : Operand → Option V) (o : Oper) (b : Nat) (v : V) (obj : AO) : Prop := ∃ σ : St, σ.n = b ∧ aVal E ev o.op σ = some (v, σ.new obj)

/-- It makes nothing. -/
def calm (o : Oper) : Bool :=
  match o.op with
  | .move _ | .build .. => true
  | _ => false

theorem hoist_one {o : Oper} {ev : Operand → Option V} {v : V} {σ σ' : St} (hk : kindOp E o = 3) (h : aVal E ev o.op σ = some (v, σ')) :
    (calm o = true ∧ (∀ τ, aVal E ev o.op τ = some (v, τ)) ∧ σ' = σ) ∨ (calm o = false ∧ ∃ obj, HoistIs E ev o σ.n v obj ∧ σ' = σ.new obj) := by
  have key : (∃ obj, σ' = σ.new obj) → ∃ obj, HoistIs E ev o σ.n v obj ∧ σ' = σ.new obj := fun ⟨obj, e⟩ => ⟨obj, ⟨σ, rfl, e ▸ h⟩, e⟩
  cases ho : o.op <;> simp only [kindOp, ho] at hk <;> try (exact absurd hk (by decide))
  case alloc t =>
    refine .inr ⟨by simp [calm, ho], key ?_⟩
    rw [ho] at h
    simp only [aVal] at h
    split at h
    · cases h; exact ⟨_, rfl⟩
    · cases h
  case makeMap t r =>
    refine .inr ⟨by simp [calm, ho], key ?_⟩
    cases r with
    | some r => cases hk
    | none =>
      rw [ho] at h
      simp only [aVal, optEv] at h
      split at h
      · cases h
        exact ⟨_, rfl⟩
      · rename_i h1 h2; cases h2
      · cases h
  case makeSlice t l c =>
    refine .inr ⟨by simp [calm, ho], key ?_⟩
    rw [ho] at h
    simp only [aVal] at h
    split at h
    · unfold makeSliceV at h
      repeat' split at h
      all_goals first | (cases h; done) | (cases h; exact ⟨_, rfl⟩) | skip
      all_goals (rename_i hh; cases hh)
    · cases h
  case box t x =>
    refine .inr ⟨by simp [calm, ho], key ?_⟩
    rw [ho] at h
    simp only [aVal] at h
    split at h
    · cases h; exact ⟨_, rfl⟩
    · cases h
  case move x =>
    refine .inl ⟨by simp [calm, ho], ?_⟩
    rw [ho] at h
    simp only [aVal] at h ⊢
    exact ⟨fun τ => keep_to h τ, (keep_inv h).2⟩
  case build t ps =>
    refine .inl ⟨by simp [calm, ho], ?_⟩
    rw [ho] at h
    simp only [aVal] at h ⊢
    split at h
    · exact ⟨fun τ => keep_to h τ, (keep_inv h).2⟩
    · cases h
  case convert => split at hk <;> cases hk
  case call c => split at hk <;> cases hk
  case binOp => split at hk <;> cases hk
  case buildSlice => split at hk <;> cases hk

theorem kind3 {o : Oper} (hk : kindOp E o = 3) : o.guard = none ∧ ∃ d, o.dst = some d := by
  cases ho : o.op <;> simp only [kindOp, ho] at hk <;> try (exact absurd hk (by decide))
  case alloc t =>
    split at hk
    · rename_i h
      simp only [Bool.and_eq_true, Option.isNone_iff_eq_none, Option.isSome_iff_exists] at h
      exact h
    · cases hk
  case makeMap t r =>
    cases r with
    | some r => cases hk
    | none =>
      simp only at hk
      split at hk
      · rename_i h
        simp only [Bool.and_eq_true, Option.isNone_iff_eq_none, Option.isSome_iff_exists] at h
        exact h
      · cases hk
  case makeSlice t l c =>
    split at hk
    · rename_i h
      simp only [Bool.and_eq_true, Option.isNone_iff_eq_none, Option.isSome_iff_exists] at h
      exact h.1
    · cases hk
  case box t x =>
    split at hk
    · rename_i h
      simp only [Bool.and_eq_true, Option.isNone_iff_eq_none, Option.isSome_iff_exists] at h
      exact h.1
    · cases hk
  case move x =>
    split at hk
    · rename_i h
      simp only [Bool.and_eq_true, Option.isNone_iff_eq_none, Option.isSome_iff_exists] at h
      exact h.1
    · cases hk
  case build t x =>
    split at hk
    · rename_i h
      simp only [Bool.and_eq_true, Option.isNone_iff_eq_none, Option.isSome_iff_exists] at h
      exact h.1
    · cases hk
  case convert => split at hk <;> cases hk
  case call c => split at hk <;> cases hk
  case binOp => split at hk <;> cases hk
  case buildSlice => split at hk <;> cases hk

/-- What is run ahead of its turn reads what was run ahead, or what nobody writes. -/
def Apart (E : Env) (l : List Oper) : Prop := ∀ (k : Nat) (o : Oper) (d : Nat), l[k]? = some o → kindOp E o = 3 → .tmp d ∈ o.op.operands → ∀ (k' : Nat) (o' : Oper), l[k']? = some o' → o'.dst = some d → k' < k

theorem HoistIs.congr {ev ev' : Operand → Option V} {o : Oper} {b : Nat} {v : V} {obj : AO} (h : HoistIs E ev o b v obj) (he : ∀ x ∈ o.op.operands, ev x = ev' x) : HoistIs E ev' o b v obj := by
  obtain ⟨σ, h1, h2⟩ := h
  exact ⟨σ, h1, by rw [← aVal_congr he]; exact h2⟩

structure HoistFacts (E : Env) (l : List Oper) (fr : Fr) (σ : St) (fr1 : Fr) (σ1 : St) (hb : Nat → Nat) : Prop where
  n : σ.n ≤ σ1.n
  tch : σ1.tch = σ.tch
  get : ∀ b, b < σ.n → σ1.get b = σ.get b
  fn : fr1.n = fr.n
  fd : fr1.d = fr.d
  same : ∀ t, (∀ (k : Nat) (o : Oper), l[k]? = some o → kindOp E o = 3 → o.dst ≠ some t) → fr1.t.get t = fr.t.get t
  calmly : ∀ (k : Nat) (o : Oper), l[k]? = some o → kindOp E o = 3 → calm o = true → ∃ v, (∀ τ, aVal E fr1.ev o.op τ = some (v, τ)) ∧ ∀ d, o.dst = some d → fr1.t.get d = some v ∧ d < fr1.n
  made : ∀ (k : Nat) (o : Oper), l[k]? = some o → kindOp E o = 3 → calm o = false → σ.n ≤ hb k ∧ hb k < σ1.n ∧ ∃ v obj, HoistIs E fr1.ev o (hb k) v obj ∧ σ1.get (hb k) = some obj ∧ ∀ d, o.dst = some d → fr1.t.get d = some v ∧ d < fr1.n
  inj : ∀ (k k' : Nat) (o o' : Oper), l[k]? = some o → l[k']? = some o' → kindOp E o = 3 → kindOp E o' = 3 → calm o = false → calm o' = false → hb k = hb k' → k = k'

theorem hoist_facts : ∀ (l : List Oper) (fr fr1 : Fr) (σ σ1 : St), hoist E l fr σ = some (fr1, σ1) →
    (∀ (k k' : Nat) (o o' : Oper) (t : Nat), l[k]? = some o → l[k']? = some o' → o.dst = some t → o'.dst = some t → k = k') → Apart E l → ∃ hb, HoistFacts E l fr σ fr1 σ1 hb := by
  intro l
  induction l with
  | nil =>
    intro fr fr1 σ σ1 h _ _
    cases h
    exact ⟨fun _ => 0, ⟨Nat.le_refl _, rfl, fun _ _ => rfl, rfl, rfl, fun _ _ => rfl, fun k o h => by simp at h, fun k o h => by simp at h, fun k k' o o' h => by simp at h⟩⟩
  | cons o r ih =>
    intro fr fr1 σ σ1 h hssa hap
    have hap' : Apart E r := fun k o d h1 h2 h3 k' o' h4 h5 => by
      have := hap (k + 1) o d (by simpa using h1) h2 h3 (k' + 1) o' (by simpa using h4) h5
      omega
    have hssa' : ∀ (k k' : Nat) (o o' : Oper) (t : Nat), r[k]? = some o → r[k']? = some o' → o.dst = some t → o'.dst = some t → k = k' := fun k k' o o' t h1 h2 h3 h4 => by
      have := hssa (k + 1) (k' + 1) o o' t (by simpa using h1) (by simpa using h2) h3 h4
      omega
    unfold hoist at h
    split at h
    · rename_i hk
      have hk := Nat.eq_of_beq_eq_true hk
      split at h
      · rename_i v σ' h1
        split at h
        · rename_i fr' h2
          obtain ⟨p1, p2, p3, p4⟩ := put_same h2
          -- what is written here is read by nobody ahead
          have hfresh : ∀ d, o.dst = some d → ∀ (k : Nat) (o' : Oper), r[k]? = some o' → kindOp E o' = 3 → o'.dst ≠ some d := fun d hd k o' hr _ ht' => by
            have := hssa 0 (k + 1) o o' d rfl (by simpa using hr) hd ht'
            omega
          have hev : ∀ {hb : Nat → Nat} {σ2 : St}, HoistFacts E r fr' σ2 fr1 σ1 hb → ∀ x ∈ o.op.operands, fr.ev x = fr1.ev x := fun F x hx => by
            cases x with
            | tmp t =>
              show fr.t.get t = fr1.t.get t
              rw [F.same t fun k o' hr hk' hd => by
                have := hap 0 o t rfl hk hx (k + 1) o' (by simpa using hr) hd
                omega]
              refine (p3 t fun hd => ?_).symm
              have := hap 0 o t rfl hk hx 0 o rfl hd
              omega
            | _ => rfl
          rcases hoist_one hk h1 with ⟨hc, h3, rfl⟩ | ⟨hc, obj, h3, rfl⟩
          · obtain ⟨hb, F⟩ := ih fr' fr1 _ σ1 h hssa' hap'
            refine ⟨fun k => match k with | 0 => 0 | k + 1 => hb k, ⟨F.n, F.tch, F.get, F.fn.trans p1, F.fd.trans p2, fun t ht => ?_, fun k o' hl hk' hc' => ?_, fun k o' hl hk' hc' => ?_, fun k k' o1 o2 h4 h5 h6 h7 h8 h9 h10 => ?_⟩⟩
            · rw [F.same t fun k o' hr => ht (k + 1) o' (by simpa using hr)]
              exact p3 t (ht 0 o rfl hk)
            · cases k with
              | zero =>
                simp at hl; subst hl
                refine ⟨v, fun τ => by rw [← aVal_congr (hev F)]; exact h3 τ, fun d hd => ?_⟩
                rw [F.same d (hfresh d hd), F.fn]
                exact p4 d hd
              | succ k => exact F.calmly k o' (by simpa using hl) hk' hc'
            · cases k with
              | zero => simp at hl; subst hl; rw [hc] at hc'; cases hc'
              | succ k => exact F.made k o' (by simpa using hl) hk' hc'
            · cases k with
              | zero => simp at h4; subst h4; rw [hc] at h8; cases h8
              | succ k =>
                cases k' with
                | zero => simp at h5; subst h5; rw [hc] at h9; cases h9
                | succ k' =>
                  have := F.inj k k' o1 o2 (by simpa using h4) (by simpa using h5) h6 h7 h8 h9 h10
                  omega
          · obtain ⟨hb, F⟩ := ih fr' fr1 _ σ1 h hssa' hap'
            have hn1 : (σ.new obj).n = σ.n + 1 := rfl
            have Fn := F.n
            rw [hn1] at Fn
            refine ⟨fun k => match k with | 0 => σ.n | k + 1 => hb k, ⟨by omega, F.tch, fun b hlt => ?_, F.fn.trans p1, F.fd.trans p2, fun t ht => ?_, fun k o' hl hk' hc' => ?_, fun k o' hl hk' hc' => ?_, fun k k' o1 o2 h4 h5 h6 h7 h8 h9 h10 => ?_⟩⟩
            · rw [F.get b (by rw [hn1]; omega), St.get_new, if_neg (by omega)]
            · rw [F.same t fun k o' hr => ht (k + 1) o' (by simpa using hr)]
              exact p3 t (ht 0 o rfl hk)
            · cases k with
              | zero => simp at hl; subst hl; rw [hc] at hc'; cases hc'
              | succ k => exact F.calmly k o' (by simpa using hl) hk' hc'
            · cases k with
              | zero =>
                simp at hl; subst hl
                refine ⟨Nat.le_refl _, by show σ.n < σ1.n; omega, v, obj, h3.congr (hev F), ?_, fun d hd => ?_⟩
                · show σ1.get σ.n = _
                  rw [F.get σ.n (by rw [hn1]; omega), St.get_new, if_pos rfl]
                · rw [F.same d (hfresh d hd), F.fn]
                  exact p4 d hd
              | succ k =>
                obtain ⟨q1, q2, q3⟩ := F.made k o' (by simpa using hl) hk' hc'
                rw [hn1] at q1
                exact ⟨by show σ.n ≤ hb k; omega, q2, q3⟩
            · cases k with
              | zero =>
                cases k' with
                | zero => rfl
                | succ k' =>
                  have := (F.made k' o2 (by simpa using h5) h7 h9).1
                  rw [hn1] at this
                  have h10 : σ.n = hb k' := h10
                  omega
              | succ k =>
                cases k' with
                | zero =>
                  have := (F.made k o1 (by simpa using h4) h6 h8).1
                  rw [hn1] at this
                  have h10 : hb k = σ.n := h10
                  omega
                | succ k' =>
                  have := F.inj k k' o1 o2 (by simpa using h4) (by simpa using h5) h6 h7 h8 h9 h10
                  omega
        · cases h
      · cases h
    · rename_i hk
      have hk : kindOp E o ≠ 3 := fun he => hk (by rw [he]; rfl)
      obtain ⟨hb, F⟩ := ih fr fr1 σ σ1 h hssa' hap'
      refine ⟨fun k => match k with | 0 => 0 | k + 1 => hb k, ⟨F.n, F.tch, F.get, F.fn, F.fd, fun t ht => F.same t fun k o' hr => ht (k + 1) o' (by simpa using hr), fun k o' hl hk' hc' => ?_, fun k o' hl hk' hc' => ?_, fun k k' o1 o2 h4 h5 h6 h7 h8 h9 h10 => ?_⟩⟩
      · cases k with
        | zero => simp at hl; subst hl; exact absurd hk' hk
        | succ k => exact F.calmly k o' (by simpa using hl) hk' hc'
      · cases k with
        | zero => simp at hl; subst hl; exact absurd hk' hk
        | succ k => exact F.made k o' (by simpa using hl) hk' hc'
      · cases k with
        | zero => simp at h4; subst h4; exact absurd h6 hk
        | succ k =>
          cases k' with
          | zero => simp at h5; subst h5; exact absurd h7 hk
          | succ k' =>
            have := F.inj k k' o1 o2 (by simpa using h4) (by simpa using h5) h6 h7 h8 h9 h10
            omega
end
end SS

namespace SS
open Go

def wpOpIn (F : Fence) (n : Nat) (P : Program) (ops : Array Oper) (Q : Exit → Act → World → Prop) (i : Nat) (K : Act → World → Prop) (a : Act) (w : World) : Prop :=
  match ops[i]? with
  | none => K a w
  | some o => if Region.wanted o (yielded ops a.tmps) then o.wpIn F n P a w K Q else (∀ f, o.about P w a.eval = some f → F.fn f) ∧ K (a.put o.dst undef) w

theorem wpOpsIn_cons {F : Fence} {n : Nat} {P : Program} {ops : Array Oper} {Q : Exit → Act → World → Prop} {i : Nat} {rest : List Nat} {a : Act} {w : World} :
    wpOpsIn F n P ops Q (i :: rest) a w = wpOpIn F n P ops Q i (wpOpsIn F n P ops Q rest) a w := by
  cases h : ops[i]? <;> simp [wpOpsIn, wpOpIn, h]

theorem FR.leaf {ρ : Ren} {M : Mem} {ms : List Nat} {fr : Fr} {a : Act} (h : FR ρ M ms fr a) : FR ρ M ms { fr with t := .leaf } a :=
  ⟨fun t v hv => (by rw [show ({ fr with t := .leaf } : Fr).t.get t = none from PT.get_leaf t] at hv; cases hv), h.size, h.defers⟩

theorem FR.put_leaf {ρ : Ren} {M : Mem} {ms : List Nat} {n : Nat} {d : List (FuncId × List V)} {a : Act} (h : FR ρ M ms { t := .leaf, n := n, d := d } a) (dst : Option Nat) (v : Value) : FR ρ M ms { t := .leaf, n := n, d := d } (a.put dst v) := by
  refine ⟨fun t v hv => (by rw [show ({ t := .leaf, n := n, d := d } : Fr).t.get t = none from PT.get_leaf t] at hv; cases hv), ?_, ?_⟩
  · cases dst with
    | none => exact h.size
    | some d => simp only [Act.put, Array.size_setIfInBounds]; exact h.size
  · cases dst with
    | none => exact h.defers
    | some d => exact h.defers

theorem binds_any {md : Region.Mode} {e : Edge} (h : Region.binds .any e = true) : Region.binds md e = true := by
  cases hg : e.ground <;> simp [Region.binds, hg] at h ⊢

/-- What is fixed, for a region. -/
structure Reg (E : Env) (call : SS.Call) (ops : List Oper) (σ0 σ1 : St) (fr1 : Fr) (hb : Nat → Nat) (wr : PT Nat) (dF : DS) : Prop where
  edges : edgesOk ops 0 = true
  hwr : writers ops 0 .leaf = some wr
  reads : readsOk E ops (withMasks ops) wr (withMasks ops) 0 = true
  rows : inRows (effects E (withMasks ops) 0) = true
  kinds : ∀ (k : Nat) (o : Oper), ops[k]? = some o → kindOp E o < 4
  tF : dF.t = (effects E (withMasks ops) 0).length
  calmly : ∀ (k : Nat) (o : Oper), ops[k]? = some o → kindOp E o = 3 → calm o = true → ∃ v, (∀ τ, aVal E dF.fr.ev o.op τ = some (v, τ)) ∧ ∀ d, o.dst = some d → dF.fr.t.get d = some v ∧ d < dF.fr.n
  ho : ∀ (k : Nat) (o : Oper), ops[k]? = some o → kindOp E o = 3 → calm o = false → σ0.n ≤ hb k ∧ hb k < σ1.n ∧ ∃ v obj, HoistIs E dF.fr.ev o (hb k) v obj ∧ σ1.get (hb k) = some obj ∧ ∀ d, o.dst = some d → dF.fr.t.get d = some v ∧ d < dF.fr.n
  apart : ∀ (k : Nat) (o : Oper) (m d : Nat), (withMasks ops)[k]? = some (o, m) → kindOp E o = 3 → .tmp d ∈ o.op.operands → ∀ j, wr.get d = some j → m.testBit j = true
  hinj : ∀ (k k' : Nat) (o o' : Oper), ops[k]? = some o → ops[k']? = some o' → kindOp E o = 3 → kindOp E o' = 3 → calm o = false → calm o' = false → hb k = hb k' → k = k'
  does : ∀ (k : Nat) (o : Oper) (m : Nat), (withMasks ops)[k]? = some (o, m) → kindOp E o ≠ 3 → ∃ v fk, Does E call ops (effects E (withMasks ops) 0) fk (hist dF) dF.t k o m v ∧ (∀ t, o.dst = some t → dF.fr.t.get t = some v ∧ t < dF.fr.n) ∧ (∀ t, readOk wr m (.tmp t) = true → dF.fr.t.get t = fk.t.get t) ∧
    ∀ (t j : Nat) (o' : Oper) (m' : Nat), wr.get t = some j → (withMasks ops)[j]? = some (o', m') → m'.testBit k = true → fr1.t.get t = fk.t.get t

abbrev L (l : Array Bool) (i : Nat) : Prop := l.getD i false = true

theorem L_set {l : Array Bool} {i j : Nat} (hi : i < l.size) : L (l.setIfInBounds i true) j ↔ L l j ∨ j = i := by
  unfold L
  by_cases h : i = j
  · subst h
    simp [hi]
  · rw [getD_set_ne false h]
    constructor
    · exact .inl
    · rintro (h1 | h1)
      · exact h1
      · exact absurd h1.symm h

theorem count_set {l : Array Bool} {i : Nat} (hi : i < l.size) (hn : ¬ L l i) : (l.setIfInBounds i true).toList.countP id = l.toList.countP id + 1 := by
  have hl : i < l.toList.length := by simpa using hi
  have hf : l.toList[i] = false := by
    unfold L at hn
    simp only [Array.getD_eq_getD_getElem?, Array.getElem?_eq_getElem hi, Option.getD_some, Bool.not_eq_true] at hn
    simpa using hn
  rw [Array.toList_setIfInBounds, List.countP_set hl, hf]
  simp

structure Inv (ms : List Nat) (E : Env) (call : SS.Call) (ops : List Oper) (σ0 σ1 : St) (fr1 : Fr) (hb : Nat → Nat) (wr : PT Nat) (dF : DS) (ρ0 : Ren) (M0 : Mem) (w0 : World) (l : Array Bool) (fuel : Nat) (ρ : Ren) (M : Mem) (e : Nat) (σ : St) (a : Act) (w : World) : Prop where
  hist : hist dF e = some σ
  step : Step E.P ρ0 M0 σ0 w0 ρ M σ w
  effs : ∀ j i m : Nat, (effects E (withMasks ops) 0)[j]? = some (i, m) → (L l i ↔ j < e)
  le : e ≤ dF.t
  tmps : ∀ t v, dF.fr.t.get t = some v → (∀ i, wr.get t = some i → L l i) → ∃ v', a.tmps[t]? = some v' ∧ VR ρ M v v'
  init : ∀ (t : Nat) (v : V) (j : Nat) (o : Oper), fr1.t.get t = some v → wr.get t = some j → ops[j]? = some o → kindOp E o < 3 → ¬ L l j → ∃ v', a.tmps[t]? = some v' ∧ VR ρ M v v'
  late : ∀ (k : Nat) (o : Oper), ops[k]? = some o → kindOp E o = 3 → calm o = false → ¬ L l k → ρ (hb k) = none ∧ σ.get (hb k) = σ1.get (hb k) ∧ hb k < σ.n
  fr : FR ρ M ms { t := .leaf, n := dF.fr.n, d := dF.fr.d } a
  size : l.size = ops.length
  closed : ∀ k m i : Nat, L l k → (bits ops)[k]? = some m → m.testBit i = true → L l i
  count : l.toList.countP id + fuel = ops.length

section
variable {F : Fence} {n : Nat} {ms : List Nat} {E : Env} {call : SS.Call} {ops : List Oper} {σ0 σ1 : St} {fr1 : Fr} {hb : Nat → Nat} {wr : PT Nat} {dF : DS} {ρ0 : Ren} {M0 : Mem} {w0 : World} {Q : Exit → Act → World → Prop}

theorem Does.congr {effs : List (Nat × Nat)} {fr fr' : Fr} {F : Nat → Option St} {tF i : Nat} {o : Oper} {m : Nat} {v : V} (h : Does E call ops effs fr F tF i o m v) (hw : wants ops o fr = wants ops o fr') (he : ∀ σ, eOp E call fr.ev o σ = eOp E call fr'.ev o σ) :
    Does E call ops effs fr' F tF i o m v := by
  cases h with
  | skip h1 h2 => exact .skip (hw ▸ h1) h2
  | skip2 e σ h1 h2 h3 h4 h5 => exact .skip2 e σ (hw ▸ h1) h2 h3 h4 h5
  | pure v h1 h2 h3 => exact .pure v (hw ▸ h1) h2 fun τ => he τ ▸ h3 τ
  | read v h1 h2 h3 => exact .read v (hw ▸ h1) h2 fun e h4 h5 h6 => let ⟨σ, h7, h8⟩ := h3 e h4 h5 h6; ⟨σ, h7, he σ ▸ h8⟩
  | eff v e σ σ' h1 h2 h3 h4 h5 h6 => exact .eff v e σ σ' (hw ▸ h1) h2 h3 h4 h5 (he σ ▸ h6)

/-- Nobody writes it from here on. -/
theorem read_before {k m t : Nat} {o : Oper} (hed : edgesOk ops 0 = true) (hwr : writers ops 0 .leaf = some wr) (hk : (withMasks ops)[k]? = some (o, m)) (hr : readOk wr m (.tmp t) = true) :
    ∀ (k' : Nat) (o' : Oper), ops[k']? = some o' → o'.dst = some t → m.testBit k' = true ∧ k' < k := by
  intro k' o' ho hd
  obtain ⟨_, h2, _⟩ := writers_get hwr
  have := h2 k' o' t ho hd
  rw [Nat.zero_add] at this
  unfold readOk at hr
  simp only [this] at hr
  exact ⟨hr, bits_lt hed k m k' (withMasks_get.1 hk).2 hr⟩

theorem reg_of {fr : Fr} {σ : St} (hok : regionOk E ops = true) (hh : hoist E ops fr σ = some (fr1, σ1)) (hd : dRun E call ops (effects E (withMasks ops) 0) (withMasks ops) 0 { fr := fr1, past := [σ1], t := 0, pend := [] } = some dF) :
    ∃ hb wr, Reg E call ops σ σ1 fr1 hb wr dF ∧ HoistFacts E ops fr σ fr1 σ1 hb ∧ RunFacts E call ops (effects E (withMasks ops) 0) (withMasks ops) 0 { fr := fr1, past := [σ1], t := 0, pend := [] } dF := by
  unfold regionOk at hok
  simp only [Bool.and_eq_true] at hok
  obtain ⟨⟨⟨⟨h1, h2⟩, h3⟩, h4⟩, _⟩ := hok
  split at h2
  · rename_i wr hwr
    rw [Bool.and_eq_true] at h2
    obtain ⟨h2, h2a⟩ := h2
    obtain ⟨_, hw2, _⟩ := writers_get hwr
    have hap3 : ∀ (k : Nat) (o : Oper) (m d : Nat), (withMasks ops)[k]? = some (o, m) → kindOp E o = 3 → .tmp d ∈ o.op.operands → ∀ j, wr.get d = some j → m.testBit j = true ∧ ∀ o', ops[j]? = some o' → kindOp E o' = 3 := fun k o m d hk hk3 hx j hj => by
      have h5 := List.all_eq_true.1 h2a (o, m) (List.mem_of_getElem? hk)
      unfold apartOk at h5
      simp only [hk3, Nat.beq_refl, Bool.not_true, Bool.false_or, List.all_eq_true] at h5
      have h6 := h5 (.tmp d) (by simpa using hx)
      simp only [hj, Bool.and_eq_true] at h6
      refine ⟨h6.1, fun o' ho' => ?_⟩
      have h7 := h6.2
      rw [ho'] at h7
      exact Nat.eq_of_beq_eq_true h7
    have hget : ∀ (k : Nat) (o : Oper), ops[k]? = some o → ∃ m, (withMasks ops)[k]? = some (o, m) := fun k o ho => by
      have hlt := (List.getElem?_eq_some_iff.1 ho).1
      obtain ⟨m, hm⟩ : ∃ m, (bits ops)[k]? = some m := ⟨_, List.getElem?_eq_getElem (by rw [bits, masks_length]; exact hlt)⟩
      exact ⟨m, withMasks_get.2 ⟨ho, hm⟩⟩
    have hapart : Apart E ops := fun k o d ho hk3 hx k' o' ho' hd => by
      obtain ⟨m, hm⟩ := hget k o ho
      have hw := hw2 k' o' d ho' hd
      rw [Nat.zero_add] at hw
      have h5 := (hap3 k o m d hm hk3 hx k' hw).1
      exact bits_lt h1 k m k' (withMasks_get.1 hm).2 h5
    have hssa : ∀ (k k' : Nat) (o o' : Oper) (t : Nat), ops[k]? = some o → ops[k']? = some o' → o.dst = some t → o'.dst = some t → k = k' := by
      intro k k' o o' t h5 h6 h7 h8
      have e1 := hw2 k o t h5 h7
      have e2 := hw2 k' o' t h6 h8
      rw [e1] at e2; simp at e2; exact e2
    have hk : ∀ (k : Nat) (o : Oper), ops[k]? = some o → kindOp E o < 4 := fun k o ho => by
      have := List.all_eq_true.1 h4 o (List.mem_of_getElem? ho)
      exact (Nat.blt_eq).mp this
    obtain ⟨hb, HF⟩ := hoist_facts ops fr fr1 σ σ1 hh hssa hapart
    have RF := dRun_facts (withMasks ops) 0 _ dF hd rfl rfl (fun k o m h => hk k o (withMasks_get.1 h).1) fun k k' o m o' m' t h5 h6 h7 h8 => hssa k k' o o' t (withMasks_get.1 h5).1 (withMasks_get.1 h6).1 h7 h8
    have hdst : ∀ (k : Nat) (o : Oper) (d : Nat), ops[k]? = some o → kindOp E o = 3 → o.dst = some d → dF.fr.t.get d = fr1.t.get d := fun k o d ho hk3 hd' =>
      RF.same d fun k' o' m h5 h6 h7 => by
        have := hssa k k' o o' d ho (withMasks_get.1 h5).1 hd' h7
        subst this
        have h9 := (withMasks_get.1 h5).1
        rw [ho] at h9
        cases h9
        exact h6 hk3
    have hev : ∀ (k : Nat) (o : Oper), ops[k]? = some o → kindOp E o = 3 → ∀ x ∈ o.op.operands, fr1.ev x = dF.fr.ev x := fun k o ho hk3 x hx => by
      cases x with
      | tmp t =>
        show fr1.t.get t = dF.fr.t.get t
        obtain ⟨m, hm⟩ := hget k o ho
        refine (RF.same t fun k' o' m' h5 h6 h7 => ?_).symm
        have hw := hw2 k' o' t (withMasks_get.1 h5).1 h7
        rw [Nat.zero_add] at hw
        exact h6 ((hap3 k o m t hm hk3 hx k' hw).2 o' (withMasks_get.1 h5).1)
      | _ => rfl
    refine ⟨hb, wr, ⟨h1, hwr, h2, h3, hk, ?_, fun k o ho hk3 hc => ?_, fun k o ho hk3 hc => ?_, fun k o m d hm hk3 hx j hj => (hap3 k o m d hm hk3 hx j hj).1, HF.inj, fun k o m hkm hk3 => ?_⟩, HF, RF⟩
    · have := RF.tt; simpa using this
    · obtain ⟨v, q1, q2⟩ := HF.calmly k o ho hk3 hc
      refine ⟨v, fun τ => by rw [← aVal_congr (hev k o ho hk3)]; exact q1 τ, fun d hd' => ?_⟩
      rw [hdst k o d ho hk3 hd', RF.nn]
      exact q2 d hd'
    · obtain ⟨q1, q2, v, obj, q3, q4, q5⟩ := HF.made k o ho hk3 hc
      refine ⟨q1, q2, v, obj, q3.congr (hev k o ho hk3), q4, fun d hd' => ?_⟩
      rw [hdst k o d ho hk3 hd', RF.nn]
      exact q5 d hd'
    · obtain ⟨fr', v, q1, q2, q3, q4⟩ := RF.does k o m hkm hk3
      rw [Nat.zero_add] at q1
      refine ⟨v, fr', q1, q2, fun t ht => q3 t fun k' o' m' hle hk' _ hd' => ?_, fun t j o' m' hw hj hb => (q4 t fun k' o2 m2 hlt hk' _ hd' => ?_).symm⟩
      · have := (read_before h1 hwr hkm ht k' o' (withMasks_get.1 hk').1 hd').2
        omega
      · have e1 := hw2 k' o2 t (withMasks_get.1 hk').1 hd'
        rw [hw] at e1
        have := bits_lt h1 j m' k (withMasks_get.1 hj).2 hb
        simp only [Option.some.injEq] at e1
        omega
  · cases h2

theorem wants_sound' {ρ : Ren} {M : Mem} {o : Oper} {fr : Fr} {a : Act} {r : Bool} (h : wants ops o fr = some r) (hfr : ∀ j w p d v, o.guard = some (j, w) → ops[j]? = some p → p.dst = some d → fr.t.get d = some v → ∃ v', a.tmps[d]? = some v' ∧ VR ρ M v v') :
    Region.wanted o (yielded ops.toArray a.tmps) = r := by
  unfold wants at h
  unfold Region.wanted
  split at h
  · rename_i hg; rw [hg]; cases h; rfl
  · rename_i j want hg
    rw [hg]
    split at h
    · rename_i p hp
      split at h
      · rename_i d hd
        split at h
        · rename_i b hb
          cases h
          obtain ⟨v', h1, h2⟩ := hfr j want p d _ hg hp hd hb
          cases h2
          have : yielded ops.toArray a.tmps j = some b := by simp [yielded, hp, hd, h1]
          simp only [this]
          cases b <;> cases want <;> rfl
        · rename_i hb
          cases h
          obtain ⟨v', h1, h2⟩ := hfr j want p d _ hg hp hd hb
          cases h2
          have : yielded ops.toArray a.tmps j = none := by simp [yielded, hp, hd, h1]
          simp only [this]
          cases want <;> rfl
        · cases h
      · cases h
    · cases h

/-- After an operation: what is known of the temporaries. -/
theorem tmps_put {l : Array Bool} {i : Nat} {o : Oper} {ρ ρ' : Ren} {M M' : Mem} {a : Act} {v : V} {v' : Value} (hwr : writers ops 0 .leaf = some wr) (ho : ops[i]? = some o) (hi : i < l.size) (hg : Grows ρ M ρ' M')
    (ht : ∀ t v, dF.fr.t.get t = some v → (∀ i, wr.get t = some i → L l i) → ∃ v', a.tmps[t]? = some v' ∧ VR ρ M v v') (hsz : a.tmps.size = dF.fr.n) (hd : ∀ t, o.dst = some t → dF.fr.t.get t = some v ∧ t < dF.fr.n) (hv : VR ρ' M' v v') :
    ∀ t u, dF.fr.t.get t = some u → (∀ j, wr.get t = some j → L (l.setIfInBounds i true) j) → ∃ u', (a.put o.dst v').tmps[t]? = some u' ∧ VR ρ' M' u u' := by
  intro t u hu hL
  obtain ⟨_, h2, h3⟩ := writers_get hwr
  by_cases hdt : o.dst = some t
  · obtain ⟨h4, h5⟩ := hd t hdt
    rw [h4] at hu; cases hu
    exact ⟨v', by rw [hdt]; simp [Act.put, hsz, h5], hv⟩
  · obtain ⟨u', h6, h7⟩ := ht t u hu fun j hj => by
      rcases (L_set hi).1 (hL j hj) with h8 | h8
      · exact h8
      · subst h8
        rcases h3 t _ hj with h9 | ⟨k, o', h9, h10, h11⟩
        · rw [PT.get_leaf] at h9; cases h9
        · rw [Nat.zero_add] at h9; subst h9
          rw [ho] at h10; cases h10
          exact absurd h11 hdt
    refine ⟨u', ?_, h7.mono hg⟩
    cases hdst : o.dst with
    | none => exact h6
    | some d =>
      have : d ≠ t := fun he => hdt (by rw [hdst, he])
      simp only [Act.put, Array.getElem?_setIfInBounds_ne this]
      exact h6

/-- What is written later still is as it was. -/
theorem init_put {l : Array Bool} {i : Nat} {o : Oper} {ρ ρ' : Ren} {M M' : Mem} {a : Act} {v' : Value} (hwr : writers ops 0 .leaf = some wr) (ho : ops[i]? = some o) (hi : i < l.size) (hg : Grows ρ M ρ' M')
    (ht : ∀ (t : Nat) (v : V) (j : Nat) (o : Oper), fr1.t.get t = some v → wr.get t = some j → ops[j]? = some o → kindOp E o < 3 → ¬ L l j → ∃ v', a.tmps[t]? = some v' ∧ VR ρ M v v') :
    ∀ (t : Nat) (v : V) (j : Nat) (o2 : Oper), fr1.t.get t = some v → wr.get t = some j → ops[j]? = some o2 → kindOp E o2 < 3 → ¬ L (l.setIfInBounds i true) j → ∃ u', (a.put o.dst v').tmps[t]? = some u' ∧ VR ρ' M' v u' := by
  intro t v j o2 h1 h2 h3 h4 h5
  rw [L_set hi] at h5
  obtain ⟨u', h6, h7⟩ := ht t v j o2 h1 h2 h3 h4 (fun h => h5 (.inl h))
  refine ⟨u', ?_, h7.mono hg⟩
  obtain ⟨_, hw, _⟩ := writers_get hwr
  cases hdst : o.dst with
  | none => exact h6
  | some d =>
    have : d ≠ t := fun he => by
      subst he
      have := hw i o d ho hdst
      rw [h2, Nat.zero_add] at this
      simp only [Option.some.injEq] at this
      exact h5 (.inr this)
    simp only [Act.put, Array.getElem?_setIfInBounds_ne this]
    exact h6

theorem inv_step (hF : Wd F) (hdf : F.round = none ∨ ops.all calmO = true) (hval : ValOk E) (hbi : BuiltinOk E) (hcall : CallOk E call) (R : Reg E call ops σ0 σ1 fr1 hb wr dF) (hG : GOk E M0) {md : Region.Mode} {l : Array Bool} {fuel : Nat} {ρ : Ren} {M : Mem} {e : Nat} {σ : St} {a : Act} {w : World} {i : Nat} {K : Act → World → Prop}
    (I : Inv ms E call ops σ0 σ1 fr1 hb wr dF ρ0 M0 w0 l (fuel + 1) ρ M e σ a w) (hi : i ∈ Region.ready md ops.toArray l)
    (hK : ∀ ρ' M' e' σ' a' w', Inv ms E call ops σ0 σ1 fr1 hb wr dF ρ0 M0 w0 (l.setIfInBounds i true) fuel ρ' M' e' σ' a' w' → K a' w') : wpOpIn F n E.P ops.toArray Q i K a w := by
  obtain ⟨hun, o, ho', hall⟩ := mem_ready.1 hi
  have ho : ops[i]? = some o := by simpa using ho'
  have hlt : i < ops.length := (List.getElem?_eq_some_iff.1 ho).1
  have hil : i < l.size := by rw [I.size]; exact hlt
  have hnL : ¬ L l i := by
    unfold L
    simp only [Array.getD_eq_getD_getElem?, Array.getElem?_eq_getElem hil, Option.getD_some] at hun ⊢
    rw [hun]; simp
  obtain ⟨m, hm⟩ : ∃ m, (bits ops)[i]? = some m := ⟨_, List.getElem?_eq_getElem (by rw [bits, masks_length]; exact hlt)⟩
  have hom : (withMasks ops)[i]? = some (o, m) := withMasks_get.2 ⟨ho, hm⟩
  have hmask : ∀ j, m.testBit j = true → L l j := fun j hj => by
    obtain ⟨ed, h1, h2, h3⟩ := bits_bit hm ho hj
    have h4 := hall ed (by simpa using h1) (binds_any h2)
    rcases h3 with rfl | ⟨m', h5, h6⟩
    · exact h4
    · exact I.closed _ m' j h4 h5 h6
  have hclosed : ∀ k m' j : Nat, L (l.setIfInBounds i true) k → (bits ops)[k]? = some m' → m'.testBit j = true → L (l.setIfInBounds i true) j := fun k m' j h1 h2 h3 => by
    rw [L_set hil] at h1 ⊢
    rcases h1 with h1 | rfl
    · exact .inl (I.closed k m' j h1 h2 h3)
    · rw [hm] at h2; cases h2; exact .inl (hmask j h3)
  have hcount : (l.setIfInBounds i true).toList.countP id + fuel = ops.length := by
    rw [count_set hil hnL]; have := I.count; omega
  have hro := readsOk_get R.reads hom
  rw [Nat.zero_add] at hro
  have hrd : ∀ t v, readOk wr m (.tmp t) = true → dF.fr.t.get t = some v → ∃ v', a.tmps[t]? = some v' ∧ VR ρ M v v' := fun t v h1 h2 => I.tmps t v h2 fun j hj => hmask j (by
    unfold readOk at h1
    simp only [hj] at h1
    exact h1)
  have hdo : F.round = none ∨ calmO o = true := hdf.imp id fun hc => List.all_eq_true.1 hc o (List.mem_of_getElem? ho)
  unfold wpOpIn
  simp only [ho']
  by_cases hk3 : kindOp E o = 3
  · -- made of nothing
    obtain ⟨hg, d, hd⟩ := kind3 hk3
    have hw1 : Region.wanted o (yielded ops.toArray a.tmps) = true := by unfold Region.wanted; rw [hg]
    rw [hw1]
    simp only [if_true]
    have hne2 : ∀ j k m' : Nat, (effects E (withMasks ops) 0)[j]? = some (k, m') → k ≠ i := fun j k m' hj hki => by
      obtain ⟨k', o2, h1, h2, h3⟩ := effects_get hj
      rw [Nat.zero_add] at h1
      subst h1; subst hki
      rw [hom] at h2; cases h2
      omega
    have operand : ∀ (x : Operand) (u : V), x ∈ o.op.operands → dF.fr.ev x = some u → VR ρ M u (a.eval x) := fun x u hx hu => by
      cases x with
      | tmp t =>
        obtain ⟨v', h1, h2⟩ := I.tmps t u hu fun j hj => hmask j (R.apart i o m t hom hk3 hx j hj)
        have : a.eval (.tmp t) = v' := by simp [Act.eval, Array.getD_eq_getD_getElem?, h1]
        rw [this]; exact h2
      | const c => exact ofConst_sound hu
      | global g => cases hu; exact .gptr g 0
      | func f => cases hu; exact .fn f [] [] .nil
    cases hcalm : calm o with
    | true =>
      obtain ⟨v, q1, q2⟩ := R.calmly i o ho hk3 hcalm
      let ev2 : Operand → Option V := fun x => open Classical in if x ∈ o.op.operands then dF.fr.ev x else none
      have hev : EV ρ M ev2 a.eval := fun x u hx => by
        simp only [ev2] at hx
        split at hx
        · rename_i hmem; exact operand x u hmem hx
        · cases hx
      have hcong : aVal E dF.fr.ev o.op σ = aVal E ev2 o.op σ := aVal_congr fun x hx => by simp only [ev2, if_pos hx]
      have hv0 := q1 σ
      rw [hcong] at hv0
      have hop : (∀ c, o.op ≠ .call c) ∧ (∀ c, o.op ≠ .defer c) := by
        unfold calm at hcalm
        constructor <;> (intro c hc; rw [hc] at hcalm; cases hcalm)
      have he : eOp E call ev2 o σ = some (v, σ) := by
        unfold eOp
        split
        · rename_i c hc; exact absurd hc (hop.1 c)
        · rename_i c hc; exact absurd hc (hop.2 c)
        · exact hv0
      refine eOp_sound hF hval hbi hcall hdo he I.step.sr (hG.mono I.step.g.mem) hev fun ρ' M' v' w' s hv => ?_
      refine hK ρ' M' e σ _ _ ⟨I.hist, I.step.trans s, fun j k m' hj => ?_, I.le, tmps_put R.hwr ho hil s.g I.tmps I.fr.size q2 hv, init_put R.hwr ho hil s.g I.init, fun k o' hok hk' hc' hnk => ?_, (I.fr.mono s.g).put_leaf _ _, by simpa using I.size, hclosed, hcount⟩
      · rw [L_set hil, ← I.effs j k m' hj]
        have := hne2 j k m' hj
        simp [this]
      · rw [L_set hil] at hnk
        obtain ⟨z1, z2, z3⟩ := I.late k o' hok hk' hc' (fun h => hnk (.inl h))
        refine ⟨?_, (s.none _ z3 z1).trans z2, Nat.lt_of_lt_of_le z3 s.n⟩
        cases hr : ρ' (hb k) with
        | none => rfl
        | some e0 => obtain ⟨e1, he1⟩ := s.old _ e0 hr z3; rw [z1] at he1; cases he1
    | false =>
      obtain ⟨q1, q2, v, obj, ⟨τ, hτ, hav⟩, q4, q5⟩ := R.ho i o ho hk3 hcalm
      obtain ⟨l1, l2, l3⟩ := I.late i o ho hk3 hcalm hnL
      rw [q4] at l2
      have finish : ∀ (ρ' : Ren) (w' : World) (v' : Value), Step E.P ρ0 M0 σ0 w0 ρ' M σ w' → Grows ρ M ρ' M → (∀ b, b ≠ hb i → ρ' b = ρ b) → VR ρ' M v v' → K (a.put o.dst v') w' := fun ρ' w' v' s g hsame hv => by
        refine hK ρ' M e σ _ _ ⟨I.hist, s, fun j k m' hj => ?_, I.le, tmps_put R.hwr ho hil g I.tmps I.fr.size (fun t ht => q5 t ht) hv, init_put R.hwr ho hil g I.init, fun k o' hok hk' hc' hnk => ?_, (I.fr.mono g).put_leaf _ _, by simpa using I.size, hclosed, hcount⟩
        · rw [L_set hil, ← I.effs j k m' hj]
          have := hne2 j k m' hj
          simp [this]
        · rw [L_set hil] at hnk
          obtain ⟨z1, z2, z3⟩ := I.late k o' hok hk' hc' (fun h => hnk (.inl h))
          refine ⟨?_, z2, z3⟩
          rw [hsame _ (fun he => hnk (.inr (R.hinj k i o' o hok ho hk' hk3 hc' hcalm he)))]
          exact z1
      -- a block
      have blk : ∀ (elem : TypeId) (rows : List V) (rows' : Array Value) (u : Value), obj = .blk rows elem 0 false → VRL ρ M rows rows'.toList → (execOp a.eval o).run E.P w = .ok (.value u) (w.alloc (.cells rows' elem)) →
          (∀ ρ', ρ' = ρ.upd (hb i) ⟨w.heap.size, 0, 0, rows'.size, E.P.cellsOf elem⟩ → VR ρ' M v u) → o.wpIn F n E.P a w K Q := fun elem rows rows' u hobj h2 hrun hv => by
        subst hobj
        have hlen : rows.length = rows'.size := by simpa using h2.length
        obtain ⟨s, g⟩ := step_late (w' := w.alloc (.cells rows' elem)) (e := ⟨w.heap.size, 0, 0, rows'.size, E.P.cellsOf elem⟩) I.step q1 l3 l1 l2 rfl rfl rfl rfl rfl (fun g => ⟨rfl, fun _ => rfl, rfl, rows', (0, 0), heap_alloc_new w _, rfl, (by show 0 + rows.length ≤ rows'.size; omega), (by
          show VRL _ M rows ((rows'.toList.drop 0).take rows.length)
          have : (rows'.toList.drop 0).take rows.length = rows'.toList := by rw [List.drop_zero, hlen, ← Array.length_toList, List.take_length]
          rw [this]; exact h2.mono g), fun _ => offS_new⟩)
        apply wpIn_of_upon hF hdo
        rw [hrun]
        exact finish _ _ _ s g (fun b hb' => Ren.upd_other _ _ hb') (hv _ rfl)
      cases hop : o.op <;> simp only [kindOp, hop] at hk3 <;> try (exact absurd hk3 (by decide))
      case alloc t =>
        rw [hop] at hav
        simp only [aVal] at hav
        split at hav
        · rename_i z hz
          simp only [Option.some.injEq, Prod.mk.injEq] at hav
          obtain ⟨rfl, hnew⟩ := hav
          have hobj := (St.new_inj hnew).symm
          obtain ⟨zv, h1, h2⟩ := zeroOf_sound (ρ := ρ) (M := M) hz w
          exact blk t z.cells zv.cells (.pointer (some ⟨w.heap.size, 0, none⟩)) hobj h2.cells (by simp only [execOp, hop, Instr.alloc, newVar, Sem.run_bind, h1, newRow_run, Result.andThen_ok, Sem.run_pure]) (fun ρ' e => by subst e; rw [hτ]; exact new_ptr _ _ _ rfl rfl)
        · cases hav
      case box t x =>
        rw [hop] at hav
        simp only [aVal] at hav
        split at hav
        · rename_i u hu
          simp only [Option.some.injEq, Prod.mk.injEq] at hav
          obtain ⟨rfl, hnew⟩ := hav
          have hobj := (St.new_inj hnew).symm
          have hx := operand x u (by simp [hop, Op.operands]) hu
          exact blk t u.cells (a.eval x).cells (.pointer (some ⟨w.heap.size, 0, none⟩)) hobj hx.cells (by simp only [execOp, hop, Instr.box, newVar, Sem.run_bind, newRow_run, Result.andThen_ok, Sem.run_pure]) (fun ρ' e => by subst e; rw [hτ]; exact new_ptr _ _ _ rfl rfl)
        · cases hav
      case makeSlice t x y =>
        rw [hop] at hav
        simp only [aVal] at hav
        split at hav
        · rename_i lv cv hlv hcv
          have hx := operand x lv (by simp [hop, Op.operands]) hlv
          have hy := operand y cv (by simp [hop, Op.operands]) hcv
          obtain ⟨elem, rows, rows', len, cap, hrun0, h2, h3, hv, hσ⟩ := makeSlice_run hav hx hy w
          subst hv
          exact blk elem rows rows' (.slice (some ⟨w.heap.size, 0, none⟩) len cap) (St.new_inj hσ) h2 (by simp only [execOp, hop, Sem.run_bind, hrun0, Result.andThen_ok, Sem.run_pure]) (fun ρ' e => by
            subst e; rw [hτ]
            exact VR.refCap (M := M) (hb i) 0 len cap ⟨w.heap.size, 0, 0, rows'.size, E.P.cellsOf elem⟩ (Ren.upd_same ρ (hb i) _) h3)
        · cases hav
      case makeMap t r =>
        cases r with
        | some r => cases hk3
        | none =>
          rw [hop] at hav
          simp only [aVal, optEv] at hav
          split at hav
          · simp only [Option.some.injEq, Prod.mk.injEq] at hav
            obtain ⟨rfl, hnew⟩ := hav
            have hobj := (St.new_inj hnew).symm
            subst hobj
            obtain ⟨s, g⟩ := step_late (w' := w.alloc (.map #[] 0)) (e := ⟨w.heap.size, 0, 0, 0, 0⟩) I.step q1 l3 l1 l2 rfl rfl rfl rfl rfl (fun _ => ⟨rfl, #[], heap_alloc_new w _, .nil⟩)
            have hrun : (execOp a.eval o).run E.P w = .ok (.value (.map (some w.heap.size))) (w.alloc (.map #[] 0)) := by
              simp only [execOp, hop, Instr.makeMap, Option.map_none, Sem.run_bind, run_newObj', Result.andThen_ok, Sem.run_pure]
            apply wpIn_of_upon hF hdo
            rw [hrun]
            exact finish _ _ _ s g (fun b hb' => Ren.upd_other _ _ hb') (by rw [hτ]; exact .map _ _ (Ren.upd_same _ _ _) rfl)
          · rename_i h1 h2; cases h2
          · cases hav
      case move => simp [calm, hop] at hcalm
      case build => simp [calm, hop] at hcalm
      case convert => split at hk3 <;> cases hk3
      case call c => split at hk3 <;> cases hk3
      case binOp => split at hk3 <;> cases hk3
      case buildSlice => split at hk3 <;> cases hk3
  · obtain ⟨v, fk, hdoes, hdst, hsame, hlate⟩ := R.does i o m hom hk3
    have hwant : ∀ r, wants ops o fk = some r → Region.wanted o (yielded ops.toArray a.tmps) = r := fun r hr => wants_sound' (ρ := ρ) (M := M) hr fun j w p d v h1 h2 h3 h4 => by
      have := hro.2
      unfold guardOk at this
      simp only [h1, h2, h3] at this
      exact hrd d v this ((hsame d this).trans h4)
    have hrd2 : ∀ t v, readOk2 E wr (withMasks ops) i m (.tmp t) = true → fk.t.get t = some v → ∃ v', a.tmps[t]? = some v' ∧ VR ρ M v v' := fun t v h1 h2 => by
      unfold readOk2 at h1
      simp only at h1
      cases hw : wr.get t with
      | none =>
        have h3 : readOk wr m (.tmp t) = true := by unfold readOk; simp only [hw]
        exact hrd t v h3 ((hsame t h3).trans h2)
      | some j =>
        simp only [hw, Bool.or_eq_true] at h1
        rcases h1 with h1 | h1
        · have h3 : readOk wr m (.tmp t) = true := by unfold readOk; simp only [hw]; exact h1
          exact hrd t v h3 ((hsame t h3).trans h2)
        · split at h1
          · rename_i o' m' hj
            simp only [Bool.and_eq_true] at h1
            exact I.init t v j o' ((hlate t j o' m' hw hj h1.1).trans h2) hw (withMasks_get.1 hj).1 ((Nat.blt_eq).mp h1.2) fun hL => hnL (I.closed j m' i hL (withMasks_get.1 hj).2 h1.1)
          · cases h1
    -- the operands
    let ev2 : Operand → Option V := fun x => open Classical in if x ∈ o.op.operands then fk.ev x else none
    have hev : EV ρ M ev2 a.eval := fun x u hx => by
      simp only [ev2] at hx
      split at hx
      · rename_i hmem
        cases x with
        | tmp t =>
          obtain ⟨v', h1, h2⟩ := hrd2 t u (hro.1 _ hmem) hx
          have : a.eval (.tmp t) = v' := by simp [Act.eval, Array.getD_eq_getD_getElem?, h1]
          rw [this]; exact h2
        | const c => exact ofConst_sound hx
        | global g => cases hx; exact .gptr g 0
        | func f => cases hx; exact .fn f [] [] .nil
      · cases hx
    have hcong : ∀ τ, eOp E call fk.ev o τ = eOp E call ev2 o τ := fun τ => eOp_congr fun x hx => by simp only [ev2, if_pos hx]
    -- on we go
    have finish : ∀ (ρ' : Ren) (M' : Mem) (e' : Nat) (σ' : St) (w' : World) (v' : Value), Step E.P ρ M σ w ρ' M' σ' w' → VR ρ' M' v v' → hist dF e' = some σ' → e' ≤ dF.t →
        (∀ j k m' : Nat, (effects E (withMasks ops) 0)[j]? = some (k, m') → (L (l.setIfInBounds i true) k ↔ j < e')) → K (a.put o.dst v') w' := fun ρ' M' e' σ' w' v' s hv hh hle heffs => by
      refine hK ρ' M' e' σ' _ _ ⟨hh, I.step.trans s, heffs, hle, tmps_put R.hwr ho hil s.g I.tmps I.fr.size hdst hv, init_put R.hwr ho hil s.g I.init, fun k o' hok hk' hc' hnk => ?_, (I.fr.mono s.g).put_leaf _ _, by simpa using I.size, hclosed, hcount⟩
      rw [L_set hil] at hnk
      obtain ⟨z1, z2, z3⟩ := I.late k o' hok hk' hc' (fun h => hnk (.inl h))
      refine ⟨?_, (s.none _ z3 z1).trans z2, Nat.lt_of_lt_of_le z3 s.n⟩
      cases hr : ρ' (hb k) with
      | none => rfl
      | some e0 => obtain ⟨e1, he1⟩ := s.old _ e0 hr z3; rw [z1] at he1; cases he1
    have hsr := I.step.sr
    have hG' : GOk E M := hG.mono I.step.g.mem
    -- no effect: the same count
    have stay : kindOp E o ≠ 2 → ∀ j k m' : Nat, (effects E (withMasks ops) 0)[j]? = some (k, m') → (L (l.setIfInBounds i true) k ↔ j < e) := fun hk2 j k m' hj => by
      rw [L_set hil, ← I.effs j k m' hj]
      have : k ≠ i := fun hki => by
        obtain ⟨k', o2, h1, h2, h3⟩ := effects_get hj
        rw [Nat.zero_add] at h1
        subst h1; subst hki
        rw [hom] at h2; cases h2
        exact hk2 h3
      simp [this]
    -- an effect: its number is the count
    have number : ∀ j, (effects E (withMasks ops) 0)[j]? = some (i, m) → j = e := fun j hj => by
      have h1 : ¬ j < e := fun h => hnL ((I.effs j i m hj).2 h)
      by_cases h2 : j = e
      · exact h2
      · exfalso
        have hjl := (List.getElem?_eq_some_iff.1 hj).1
        have hj1 : ∃ k1 m1, (effects E (withMasks ops) 0)[j - 1]? = some (k1, m1) := by
          have : j - 1 < (effects E (withMasks ops) 0).length := by omega
          exact ⟨_, _, List.getElem?_eq_getElem this⟩
        obtain ⟨k1, m1, hk1⟩ := hj1
        have hj2 : (effects E (withMasks ops) 0)[j - 1 + 1]? = some (i, m) := by
          rw [show j - 1 + 1 = j by omega]; exact hj
        have h3 := hmask k1 (inRows_get R.rows hk1 hj2)
        have h4 := (I.effs (j - 1) k1 m1 hk1).1 h3
        omega
    have go : ∀ j, (effects E (withMasks ops) 0)[j]? = some (i, m) → e + 1 ≤ dF.t ∧ ∀ j k m' : Nat, (effects E (withMasks ops) 0)[j]? = some (k, m') → (L (l.setIfInBounds i true) k ↔ j < e + 1) := fun j hj => by
      have hje := number j hj
      subst hje
      have hjl := (List.getElem?_eq_some_iff.1 hj).1
      refine ⟨by rw [R.tF]; omega, fun j' k m' hj' => ?_⟩
      rw [L_set hil, I.effs j' k m' hj']
      constructor
      · rintro (h | rfl)
        · omega
        · have := effects_inj hj' hj; omega
      · intro h
        by_cases hjj : j' = j
        · subst hjj; rw [hj] at hj'; cases hj'; exact .inr rfl
        · exact .inl (by omega)
    cases hdoes with
    | skip hw hk2 =>
      rw [hwant _ hw]
      simp only [Bool.false_eq_true, if_false]
      refine ⟨fun f _ => hF.1 f, ?_⟩
      exact finish _ _ e σ w undef (.refl hsr) undef_rel I.hist I.le (stay hk2)
    | skip2 e1 σ2 hw hk2 he hF1 hF2 =>
      rw [hwant _ hw]
      simp only [Bool.false_eq_true, if_false]
      refine ⟨fun f _ => hF.1 f, ?_⟩
      have := number _ he
      subst this
      have hh := I.hist
      rw [hF1] at hh; cases hh
      obtain ⟨g1, g2⟩ := go _ he
      exact finish _ _ _ _ w undef (.refl hsr) undef_rel hF2 g1 g2
    | pure _ hw hk0 hp =>
      rw [hwant _ hw]
      simp only [if_true]
      have hp := hp σ
      rw [hcong] at hp
      exact eOp_sound hF hval hbi hcall hdo hp hsr hG' hev fun ρ' M' v' w' s hv => finish _ _ e σ w' v' s hv I.hist I.le (stay (by omega))
    | read _ hw hk1 hp =>
      rw [hwant _ hw]
      simp only [if_true]
      have hleast : least m (effects E (withMasks ops) 0) ≤ e := by
        rcases Nat.lt_or_ge e (least m (effects E (withMasks ops) 0)) with h | h
        · exfalso
          have hle := least_le (m := m) (effects E (withMasks ops) 0)
          have hel : e < (effects E (withMasks ops) 0).length := by omega
          obtain ⟨k1, m1, hk1'⟩ : ∃ k1 m1, (effects E (withMasks ops) 0)[e]? = some (k1, m1) := ⟨_, _, List.getElem?_eq_getElem hel⟩
          have := (I.effs e k1 m1 hk1').1 (hmask k1 (least_bit h hk1'))
          omega
        · exact h
      have hmost : e ≤ most i (effects E (withMasks ops) 0) := by
        rcases Nat.lt_or_ge (most i (effects E (withMasks ops) 0)) e with h | h
        · exfalso
          have hle := I.le
          rw [R.tF] at hle
          obtain ⟨k1, m1, h1, h2⟩ := most_bit (k := i) (l := effects E (withMasks ops) 0) (by omega)
          have hL := (I.effs _ k1 m1 h1).2 h
          obtain ⟨k', o2, h3, h4, _⟩ := effects_get h1
          rw [Nat.zero_add] at h3
          subst h3
          exact hnL (I.closed _ m1 i hL (withMasks_get.1 h4).2 h2)
        · exact h
      obtain ⟨σ2, h1, h2⟩ := hp e hleast hmost I.le
      have hh := I.hist
      rw [h1] at hh; cases hh
      rw [hcong] at h2
      exact eOp_sound hF hval hbi hcall hdo h2 hsr hG' hev fun ρ' M' v' w' s hv => finish _ _ e _ w' v' s hv I.hist I.le (stay (by omega))
    | eff _ e1 σ2 σ3 hw hk2 he hF1 hF2 hp =>
      rw [hwant _ hw]
      simp only [if_true]
      have := number _ he
      subst this
      have hh := I.hist
      rw [hF1] at hh; cases hh
      obtain ⟨g1, g2⟩ := go _ he
      rw [hcong] at hp
      exact eOp_sound hF hval hbi hcall hdo hp hsr hG' hev fun ρ' M' v' w' s hv => finish _ _ _ _ w' v' s hv hF2 g1 g2

theorem inv_done (R : Reg E call ops σ0 σ1 fr1 hb wr dF) {l : Array Bool} {fuel : Nat} {ρ : Ren} {M : Mem} {e : Nat} {σ : St} {a : Act} {w : World} (I : Inv ms E call ops σ0 σ1 fr1 hb wr dF ρ0 M0 w0 l fuel ρ M e σ a w)
    (hall : ∀ i, i < ops.length → L l i) : hist dF dF.t = some σ ∧ Step E.P ρ0 M0 σ0 w0 ρ M σ w ∧ FR ρ M ms dF.fr a := by
  have he : e = dF.t := by
    have hle := I.le
    rcases Nat.lt_or_ge e dF.t with h | h
    · exfalso
      rw [R.tF] at h
      obtain ⟨k1, m1, h1⟩ : ∃ k1 m1, (effects E (withMasks ops) 0)[e]? = some (k1, m1) := ⟨_, _, List.getElem?_eq_getElem h⟩
      obtain ⟨k', o2, h3, h4, _⟩ := effects_get h1
      rw [Nat.zero_add] at h3; subst h3
      have := (I.effs e _ m1 h1).1 (hall _ (by
        have := (List.getElem?_eq_some_iff.1 h4).1
        rwa [withMasks_length] at this))
      omega
    · omega
  subst he
  refine ⟨I.hist, I.step, ⟨fun t v hv => I.tmps t v hv fun i hi => ?_, I.fr.size, I.fr.defers⟩⟩
  obtain ⟨_, _, h3⟩ := writers_get R.hwr
  rcases h3 t i hi with h4 | ⟨k, o, h4, h5, _⟩
  · rw [PT.get_leaf] at h4; cases h4
  · rw [Nat.zero_add] at h4; subst h4
    exact hall _ (List.getElem?_eq_some_iff.1 h5).1

theorem go_sound (hF : Wd F) (hdf : F.round = none ∨ ops.all calmO = true) (hval : ValOk E) (hbi : BuiltinOk E) (hcall : CallOk E call) (R : Reg E call ops σ0 σ1 fr1 hb wr dF) (hG : GOk E M0) {md : Region.Mode} (hcov : Gets md ops.toArray)
    (hn : ∀ ρ M σ a w, hist dF dF.t = some σ → Step E.P ρ0 M0 σ0 w0 ρ M σ w → FR ρ M ms dF.fr a → Q .normal a w) : ∀ (fuel t : Nat) (l : Array Bool) (ρ : Ren) (M : Mem) (e : Nat) (σ : St) (a : Act) (w : World),
    Inv ms E call ops σ0 σ1 fr1 hb wr dF ρ0 M0 w0 l fuel ρ M e σ a w → wpOpsIn F n E.P ops.toArray Q (Region.linearise.go md ops.toArray fuel t l []) a w := by
  intro fuel
  induction fuel with
  | zero =>
    intro t l ρ M e σ a w I
    have hall : ∀ i, i < ops.length → L l i := fun i hi => by
      have hc := I.count
      rw [Nat.add_zero, ← I.size, ← Array.length_toList, List.countP_eq_length] at hc
      have hil : i < l.size := by rw [I.size]; exact hi
      have := hc l[i] (by simp)
      unfold L
      simp only [Array.getD_eq_getD_getElem?, Array.getElem?_eq_getElem hil, Option.getD_some]
      exact this
    obtain ⟨h1, h2, h3⟩ := inv_done R I hall
    simp only [Region.linearise.go, List.reverse_nil, wpOpsIn]
    exact hn _ _ _ _ _ h1 h2 h3
  | succ fuel ih =>
    intro t l ρ M e σ a w I
    simp only [Region.linearise.go]
    change wpOpsIn F n E.P ops.toArray Q (match (Region.ready md ops.toArray l)[t % (Region.ready md ops.toArray l).length]? with
      | some i => Region.linearise.go md ops.toArray fuel (t / (Region.ready md ops.toArray l).length) (l.setIfInBounds i true) [i]
      | none => [].reverse) a w
    cases hi : (Region.ready md ops.toArray l)[t % (Region.ready md ops.toArray l).length]? with
    | none =>
      have hnil : Region.ready md ops.toArray l = [] := by
        cases hr : Region.ready md ops.toArray l with
        | nil => rfl
        | cons x xs =>
          rw [hr] at hi
          have hlt : t % (x :: xs).length < (x :: xs).length := Nat.mod_lt _ (by simp)
          simp at hi
          simp at hlt
          omega
      have hall : ∀ i, i < ops.length → L l i := fun i hi => hcov l (by rw [I.size]; simp) hnil i (by simpa using hi)
      obtain ⟨h1, h2, h3⟩ := inv_done R I hall
      simp only [List.reverse_nil, wpOpsIn]
      exact hn _ _ _ _ _ h1 h2 h3
    | some i =>
      simp only []
      rw [linearise_go_acc, List.reverse_singleton, List.singleton_append, wpOpsIn_cons]
      exact inv_step hF hdf hval hbi hcall R hG I (List.mem_of_getElem? hi) fun ρ' M' e' σ' a' w' I' => ih _ _ _ _ _ _ _ _ I'

theorem draw_sound (hval : ValOk E) (hbi : BuiltinOk E) (hcall : CallOk E call) : DrawOk E (aDraw E call) := by
  intro F n ρ M ms w ops fr fr' σ σ' a Q hF hdf hok h hsr hg hfr hn t
  unfold aDraw at h
  simp only at h
  split at h
  · rename_i fr1 σ1 hh
    split at h
    · rename_i dF hd
      split at h
      · rename_i σ2 ps hp
        cases h
        obtain ⟨hb, wr, R, HF, RF⟩ := reg_of hok hh hd
        have I0 : Inv ms E call ops σ σ1 fr1 hb wr dF ρ M w (Array.replicate ops.length false) ops.length ρ M 0 σ1 a w := by
          have hL : ∀ i, ¬ L (Array.replicate ops.length false) i := fun i => by
            unfold L
            simp only [Array.getD_eq_getD_getElem?, Array.getElem?_replicate]
            split <;> simp
          refine ⟨?_, step_hoist hsr HF.n HF.tch HF.get, fun j i m _ => ?_, Nat.zero_le _, fun t v hv hw => ?_, fun t v j o h3 h4 h5 h6 _ => ?_, fun k o ho hk hkc _ => ?_, ?_, by simp, fun k m i h => absurd h (hL k), by simp [List.countP_replicate]⟩
          · rw [RF.hh 0 (Nat.le_refl _)]; rfl
          · exact ⟨fun h => absurd h (hL i), fun h => by omega⟩
          · obtain ⟨_, h2, _⟩ := writers_get R.hwr
            have hno : ∀ (k : Nat) (o : Oper), ops[k]? = some o → o.dst ≠ some t := fun k o ho hd' => hL _ (hw _ (h2 k o t ho hd'))
            rw [RF.same t (fun k o m hk _ => hno k o (withMasks_get.1 hk).1)] at hv
            have hv : fr1.t.get t = some v := hv
            rw [HF.same t (fun k o ho _ => hno k o ho)] at hv
            exact hfr.tmps t v hv
          · obtain ⟨_, h2, _⟩ := writers_get R.hwr
            rw [HF.same t fun k' o' ho' hk' hd' => ?_] at h3
            · exact hfr.tmps t v h3
            · have := h2 k' o' t ho' hd'
              rw [h4, Nat.zero_add] at this
              simp only [Option.some.injEq] at this
              subst this
              rw [h5] at ho'; cases ho'
              omega
          · obtain ⟨q1, q2, _⟩ := R.ho k o ho hk hkc
            refine ⟨?_, rfl, q2⟩
            cases hr : ρ (hb k) with
            | none => rfl
            | some e => have := hsr.bd _ _ hr; omega
          · have h1 : dF.fr.n = fr.n := RF.nn.trans HF.fn
            have h2 : dF.fr.d = fr.d := RF.dd.trans HF.fd
            have := hfr.leaf
            rw [h1, h2]; exact this
        have hfin : ∀ ρ' M' σ' a' w', hist dF dF.t = some σ' → Step E.P ρ M σ w ρ' M' σ' w' → FR ρ' M' ms dF.fr a' → Q .normal a' w' := fun ρ' M' σ3 a' w' h1 h2 h3 => by
          have : σ3 = σ' := by
            unfold hist at h1
            rw [if_pos (Nat.le_refl _), hp] at h1
            simpa using h1.symm
          subst this
          exact hn _ _ _ _ h2 h3
        have hok' := hok
        unfold regionOk at hok'
        simp only [Bool.and_eq_true, Bool.or_eq_true] at hok'
        obtain ⟨⟨⟨⟨hedges, _⟩, _⟩, _⟩, hdep⟩ := hok'
        have hany := gets_any hedges
        unfold Region.schedule
        split
        · exact go_sound hF hdf hval hbi hcall R hg hany hfin _ _ _ _ _ _ _ _ _ (by simpa using I0)
        · rename_i hnd
          simp only [Bool.or_eq_true, not_or] at hnd
          have hdep := hdep.resolve_left fun hs => by rw [departs_of_stays hs] at hnd; simp at hnd
          split
          · exact go_sound hF hdf hval hbi hcall R hg (gets_of_reaches hdep.1) hfin _ _ _ _ _ _ _ _ _ (by simpa using I0)
          · exact go_sound hF hdf hval hbi hcall R hg (gets_of_reaches hdep.2) hfin _ _ _ _ _ _ _ _ _ (by simpa using I0)
      · cases h
    · cases h
  · cases h
end
end SS
