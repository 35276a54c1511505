/-
  part 5 of the proof; no condition.
-/
import Derived.Test.YtglndmmlghpdpaaGreatDoorPD
import Derived.Laws.LoneSync
import Derived.Lib.Bytealg
import Derived.Lib.MakeNoZero
import Derived.Lib.Index
import Derived.ProofKit
namespace SS
open Go
def Xx (P:Program) (e:Ext) (g:Array Value->Sem Value):Prop :=
 match e with
 | .load k=>g=Extern.Atomic.loadT (.int k)
 | .store=>g=Extern.Atomic.storeT
 | .cas k=>g=Extern.Atomic.casT (.int k)
 | .add k=>g=Extern.Atomic.update (Op.intArith .add) k true
 | .nothing=>∃ m:Mark,g=λ_=>do mark m;pure Extern.Race.none_
 | .mark=>∃ m:Addr->Mark,g=Extern.Race.marked m
 | .same=>∀ (P:Program) (x:Value) (w:World),(g #[x]).run P w=.ok x w
 | .out=>True
 | .makeNoZero elem=>∃ ps t,P.underlying t=some (.slice elem)/\P.cellsOf elem=1/\g=Extern.BytealgMakeNoZero.makeNoZero ps #[t]
 | .countStr=>g=Extern.BytealgCount.count
 | .indexByteStr=>g=Extern.BytealgIndexByte.indexByte
 | .indexStr _=>True
 | .insert _ _=>True
def Q2 (P:Program) (f:FuncId) (g:Nat):Prop:=∀ (s sub:ByteArray) (m:Int) (w:World),s.size<4294967281->w.cell? ⟨g,0,none⟩=some (.int .i64 m) ->
 (callFunc f #[.string s,.string sub]).run P w=.ok (.enter f #[.string s,.string sub]) w /\
 Calls P f #[.string s,.string sub] w λe w'=>e=.returned (.int .i64 (Lib.index s.data.toList sub.data.toList))/\w'=w
structure Q1 (E:Env) (f:FuncId) (e:Ext):Prop where
 lib: ∀ g,e=.indexStr g->Q2 E.P f g
 ins: ∀ elem sz,e=.insert elem sz->False
 ok:e≠.out->(∀ g,e≠.indexStr g)->(∀ elem sz,e≠.insert elem sz)->∃ fn g,E.P.funcs[f]? = some fn/\(fn.name== "runtime.NumGoroutine")=false/\fn.body.isNone=true/\Extern.findNext fn=none/\Extern.find fn=some g/\Xx E.P e g
structure Eg (E:Env):Prop where
 code: ∀ (f:FuncId) (fn:Func) (c:Code),E.extn f=none->E.P.funcs[f]? = some fn->fn.body=some c->EF E c=true/\(fn.name== "runtime.NumGoroutine")=false
 ext: ∀ f e,E.extn f=some e->Q1 E f e
 back: ∀ f,E.back f=true->LQ E.P f
section
variable {E:Env} {ρ:Ren} {M:Mem} {σ:St} {w:World}
theorem UZ {k:IntKind} {p:V} {p':Value} {n:Int} (h:MU σ k p=some n) (hsr:SR E.P ρ M σ w) (hp:VR ρ M p p'): ∃ a,p'=.pointer (some a)/\w.cell? a=some (.int k n)/\w.frozen? a=false:=by
 unfold MU at h;split at h
 ·rename_i b ver off;split at h
  ·rename_i cs ty ver' hb;split at h
   ·rename_i hver;have hver:=Nat.eq_of_beq_eq_true hver;split at h
    ·rename_i k' n' hc;split at h
     ·rename_i hk;have:=Fw hk;subst this;cases h;obtain ⟨e,he,⟨h1,_⟩ | ⟨h1,rfl⟩⟩:=hp.ptr_inv
      ·exact absurd (CV hsr he hb).1 (by omega)
      ·obtain ⟨_,_,_,cs',fr,hh,hsz,hle,hv,hf⟩:=CV hsr he hb;have hr:=(GD hh e.s).take cs.length;obtain ⟨v',h2,h3⟩:=hv.get hc;cases h3;refine ⟨_,rfl,hr off _ h2,?_⟩;rw [O1 hh];have hlt:off<cs.length:=(List.getElem?_eq_some_iff.1 hc).1;have:=(hf rfl).not (e.s+off) (by omega);cases hd:(decide (fr.1<=e.s+off)&&decide (e.s+off<fr.2)) with
       | false=>rfl
       | true=>simp at hd;exact absurd hd this
     ·cases h
    ·cases h
   ·cases h
  ·cases h
 ·cases h
theorem QB {p v:V} {p' v':Value} {σ':St} (h:Kz σ p v=some σ') (hsr:SR E.P ρ M σ w) (hp:VR ρ M p p') (hv:VR ρ M v v') :
 ∃ a u,p'=.pointer (some a)/\w.cell? a=some u/\w.frozen? a=false/\A8 E.P ρ M σ w ρ M σ' (w.setCell a v'):=by
 unfold Kz at h;split at h
 ·rename_i b ver off;split at h
  ·rename_i cs ty ver' hb;split at h
   ·rename_i hc;simp only [Bool.and_eq_true] at hc;obtain ⟨⟨hver,hlt⟩,hone⟩:=hc;have hver:=Nat.eq_of_beq_eq_true hver;have hlt:=(Nat.blt_eq).mp hlt;cases h;obtain ⟨e,he,⟨h1,_⟩ | ⟨h1,rfl⟩⟩:=hp.ptr_inv
    ·exact absurd (CV hsr he hb).1 (by omega)
    ·have hb':=hb;have hve:ver'=e.ver:=by omega
     rw [hve] at hb';have hs:Ca cs off [v]=some (cs.set off v):=by
      unfold Ca;rw [if_pos (by rw [(Nat.blt_eq).mpr hlt,hone];rfl)];unfold Ca;rw [if_pos (Nat.ble_eq.mpr (by rw [List.length_set];omega))]
     obtain ⟨w',h2,h3⟩:=J3 hsr he hb' hs (.cons _ _ _ _ hv .nil);obtain ⟨_,_,_,cs',fr,hh,hsz,hle,hvl,hf⟩:=CV hsr he hb;have hr:=(GD hh e.s).take cs.length;obtain ⟨u,hu,_⟩:=hvl.get (List.getElem?_eq_getElem hlt);have hcell:=hr off u hu;have hfz:w.frozen? ⟨e.x,e.s+off,none⟩=false:=by
      rw [O1 hh];have:=(hf rfl).not (e.s+off) (by omega);cases hd:(decide (fr.1<=e.s+off)&&decide (e.s+off<fr.2)) with
      | false=>rfl
      | true=>simp at hd;exact absurd hd this
     refine ⟨_,u,rfl,hcell,hfz,?_⟩;have h4:w'=w.setCell ⟨e.x,e.s+off,none⟩ v':=by
      simp only [storeCells,Cx,Nat.add_zero,Sem.run_bind,run_store E.P w _ v' _ (by rw [<-hv.one];exact hone),hcell,hfz,Bool.false_eq_true,if_false,Result.andThen_ok,Sem.run_pure] at h2;cases h2;rfl
     rw [<-h4,hve];exact h3
   ·cases h
  ·cases h
 ·cases h
theorem Rf {b:UInt8} {c:Nat} (hc:c<256):(b==c.toUInt8)=(((b.toNat:Nat):Int)==(c:Int)):=by
 rw [Bool.eq_iff_iff,beq_iff_eq,beq_iff_eq];constructor
 ·intro h;subst h;have:(c.toUInt8).toNat=c:=by simp [Nat.toUInt8,UInt8.toNat_ofNat'];omega
  rw [this]
 ·intro h;have h2:b.toNat=c:=by omega
  rw [<-h2];simp [Nat.toUInt8]
theorem TE (u:UInt8) {c:Nat} (hc:c<256) (hu:u=c.toUInt8): ∀ (suf pre:List UInt8),(match (List.range' pre.length suf.length).find? (λi=>(pre++suf)[i]! == u) with
 | some i=>(i:Int)
 | none=>-1)=KY c suf pre.length
 | [],pre=>rfl
 | b :: suf,pre=>by
  have h0:(pre++b :: suf)[pre.length]! = b:=by simp
  rw [List.length_cons,List.range'_succ,List.find?_cons,h0];unfold KY;have hb:=Rf (b:=b) hc;rw [hu,hb];have ih:=TE u hc hu suf (pre++[b]);rw [List.length_append,List.length_singleton,List.append_assoc,List.singleton_append,hu] at ih;cases hcb:(((b.toNat:Nat):Int)==(c:Int)) with
  | true=>simp
  | false=>simpa using ih
theorem R7 {c:Nat} (hc:c<256): ∀ l:List UInt8,Lib.countByte l c.toUInt8=D3 c l
 | []=>rfl
 | b :: l=>by
  have ih:=R7 hc l;unfold Lib.countByte at ih ⊢;rw [List.count_cons,ih,Rf hc];have e:D3 (c:Int) (b :: l)=if ((b.toNat:Int)==(c:Int)) then 1+D3 c l else D3 c l:=rfl
  rw [e];cases ((b.toNat:Int)==(c:Int))
  ·simp
  ·simp;omega
theorem bI {c:Nat} (hc:c<256) (l:List UInt8):firstIdx ⟨l.toArray⟩ c.toUInt8=KY c l 0:=by
 have:=TE c.toUInt8 hc rfl l [];simp only [List.length_nil,List.nil_append] at this;rw [<-this];unfold firstIdx;have hs:(⟨l.toArray⟩:ByteArray).size=l.length:=by simp [ByteArray.size]
 rw [hs,List.range_eq_range'];have hg: ∀ i:Nat,(⟨l.toArray⟩:ByteArray)[i]! = l[i]! := λi=>by
  by_cases h:i<l.length
  ·have h2:i<(⟨l.toArray⟩:ByteArray).size:=by rw [hs];exact h
   rw [getElem!_pos (⟨l.toArray⟩:ByteArray) i h2,getElem!_pos l i h];rfl
  ·have h2:¬i<(⟨l.toArray⟩:ByteArray).size:=by rw [hs];exact h
   rw [getElem!_neg (⟨l.toArray⟩:ByteArray) i h2,getElem!_neg l i h]
 have hf:(λi:Nat=>(⟨l.toArray⟩:ByteArray)[i]! == c.toUInt8)=(λi:Nat=>l[i]! == c.toUInt8):=by funext i;rw [hg]
 rw [hf]
 split<;>rename_i h1<;>split<;>rename_i h2<;>rw [h1] at h2<;>cases h2<;>rfl
theorem Uk: ∀ (n:Nat) (cs:List Value),n<=cs.length->(∀ c∈cs,c.oneCell'=true)->VRL ρ M (List.replicate n .opq) (cs.take n)
 | 0,_,_,_=>.nil
 | n+1,[],h,_=>by simp at h
 | n+1,c :: cs,h,ho=>.cons _ _ _ _ (.opq _ (ho c (List.mem_cons_self ..))) (Uk n cs (by simpa using h) λc hc=>ho c (List.mem_cons_of_mem _ hc))
theorem SB: ∀ (n t:Nat) (acc:Array Value),(∀ c∈acc.toList,c.oneCell'=true)->∀ c∈(Extern.BytealgMakeNoZero.digits n t acc).toList,c.oneCell'=true
 | 0,_,_,h=>h
 | n+1,t,acc,h=>SB n (t / 256) _ λc hc=>by
  rw [Array.toList_push,List.mem_append] at hc;rcases hc with hc | hc
  ·exact h c hc
  ·rw [List.mem_singleton.1 hc];rfl
theorem nC {P:Program} {w:World} (ps:Array TypeId) (t e:TypeId) (ht:P.underlying t=some (.slice e)) (n:Nat) (hn:n<=281474976710656) :
 ∃ cs:Array Value,(Extern.BytealgMakeNoZero.makeNoZero ps #[t] #[.int .i64 n]).run P w=.ok (.slice (some ⟨w.heap.size,0,none⟩) n cs.size) (w.drew.drew.alloc (.cells cs e))/\n<=cs.size/\∀ c∈cs.toList,c.oneCell'=true:=by
 have hdef:Extern.BytealgMakeNoZero.makeNoZero ps #[t] #[.int .i64 n] =
  (do
    let .slice elem <- underlying t | stuck "bytealg.MakeNoZero: slice type expected"
    if (n:Int)<0||(n:Int)>2 ^ 48 then runtimePanic (.error "makeslice: len out of range")
    let cap <- choose (.appendCap (n:Int).toNat 0 elem)
    askRoom cap
    let bytes <- choose (.extern "internal/bytealg.MakeNoZero.bytes" 0)
    let a <- newRow elem (Extern.BytealgMakeNoZero.digits cap bytes #[])
    pure (.slice (some a) (n:Int).toNat cap)):=rfl
 refine ⟨Extern.BytealgMakeNoZero.digits (grownCap w n 0 e) ((Question.extern "internal/bytealg.MakeNoZero.bytes" 0).cut (w.tape (w.drawn+1) (.extern "internal/bytealg.MakeNoZero.bytes" 0))) #[],?_,?_,?_⟩
 ·rw [hdef];have h1:¬(n:Int)<0:=by omega
  have h2:¬(281474976710656:Int)<(n:Int):=by omega
  simp [Go.run_underlying ht,h1,h2,Question.forced,newRow,Lib.size_digits,grownCap]
 ·rw [Lib.size_digits];simpa using grownCap_ge w n 0 e
 ·exact SB _ _ _ (λc hc=>by simp at hc)
theorem TL: ∀ a b:List UInt8,JT a b=a.isPrefixOf b
 | [],_=>by simp [JT]
 | _ :: _,[]=>by simp [JT]
 | x :: a,y :: b=>by
  have e:(x==y)=Nat.beq x.toNat y.toNat:=by
   cases h:Nat.beq x.toNat y.toNat with
   | true =>
    have:=Nat.eq_of_beq_eq_true h;have:x=y:=UInt8.toNat_inj.1 this;subst this;simp
   | false =>
    have:=Nat.ne_of_beq_eq_false h;simp only [beq_eq_false_iff_ne];intro he;subst he;exact this rfl
  rw [List.isPrefixOf_cons_cons,e,<-TL a b];show (bif Nat.beq x.toNat y.toNat then JT a b else false)=_;cases Nat.beq x.toNat y.toNat<;>rfl
theorem TB (t:List UInt8): ∀ (s:List UInt8) (i:Nat),Dm t s i=if Lib.index s t=-1 then -1 else Lib.index s t+i
 | [],i=>by
  unfold Dm Lib.index;cases t.isEmpty<;>simp
 | b :: s,i=>by
  unfold Dm Lib.index;rw [TL];cases t.isPrefixOf (b :: s) with
  | true=>simp
  | false =>
   simp only [cond_false,Bool.false_eq_true,if_false];rw [TB t s (Nat.add i 1)];have h1:=Lib.index_ge s t;by_cases h:Lib.index s t=-1
   ·rw [h];simp
   ·rw [if_neg h];have h2:(Lib.index s t==-1)=false:=by simpa using h
    rw [h2];simp only [Bool.false_eq_true,if_false];rw [if_neg (by omega)];show Lib.index s t+((i+1:Nat):Int)=_;omega
theorem bB (s t:List UInt8):Dm t s 0=Lib.index s t:=by
 rw [TB]
 split
 ·rename_i h;exact h.symm
 ·omega
theorem YD {f:FuncId} {e:Ext} (hx:Q1 E f e) {vs:List V} {vs':List Value} {v:V} {σ':St} (hef:E.extn f=some e) (h:JE e vs σ=some (v,σ')) (hsr:SR E.P ρ M σ w) (hg:GOk E M) (hv:VRL ρ M vs vs') :
 Nb E.P f vs'.toArray w λv' w'=>∃ ρ' M',A8 E.P ρ M σ w ρ' M' σ' w'/\VR ρ' M' v v':=by
 have hout:e≠.out:=by rintro rfl;simp [JE] at h
 by_cases hins: ∃ elem sz,e=.insert elem sz
 ·obtain ⟨elem,sz,rfl⟩:=hins;exact (hx.ins elem sz rfl).elim
 by_cases hlib: ∃ g,e=.indexStr g
 ·obtain ⟨g,rfl⟩:=hlib;unfold JE at h;split at h
  all_goals first
   | (exfalso;rename_i hh;cases hh;done)
   | skip
  ·rename_i hh;cases hh;split at h
   ·rename_i hlt;cases h;cases hv with | cons _ x' _ _ h1 h2=>cases h2 with | cons _ y' _ _ h3 h4=>cases h4 with | nil =>
    cases h1;cases h3;rename_i s t;obtain ⟨cs',ty,fr,m,hM,hc⟩:=hg.2 _ _ hef;have hw:=hsr.mem _ _ hM;obtain ⟨hr,hc2⟩:=hx.lib _ rfl ⟨s.toArray⟩ ⟨t.toArray⟩ m w (by show s.toArray.size<_;simpa using (Nat.blt_eq).mp hlt) (by simp [World.cell?,hw,hc]);refine .inr ⟨hr,hc2.mono λe w' he=>?_⟩;obtain ⟨rfl,rfl⟩:=he;refine ⟨_,_,.refl hsr,?_⟩;rw [bB];exact .int _ _
   ·cases h
  ·cases h
 obtain ⟨fn,g,hf,hname,hb,hn,he,hi⟩:=hx.ok hout (λg hg=>hlib ⟨g,hg⟩) λelem sz hg=>hins ⟨elem,sz,hg⟩
 unfold JE at h;split at h
 ·
  rename_i k p;split at h
  ·rename_i k' n hc;split at h
   ·rename_i hk;cases h;have:=Fw hk;subst this;cases hv with | cons _ p' _ _ h1 h2=>cases h2 with | nil =>
    obtain ⟨a,v',rfl,h3,h4⟩:=ZQ hc hsr h1;cases h4;exact .inl ⟨_,_,run_call_load hf hname hb hn k (by rw [he];exact congrArg _ hi) h3,_,_,.refl hsr,.int _ _⟩
   ·cases h
  ·cases h
 ·
  rename_i p k n;unfold unit at h;split at h
  ·rename_i σ1 hs;cases h;cases hv with | cons _ p' _ _ h1 h2=>cases h2 with | cons _ u _ _ h3 h4=>cases h4 with | nil =>
   cases h3;obtain ⟨a,u,rfl,h5,h6,h7⟩:=QB hs hsr h1 (.int k n);exact .inl ⟨_,_,run_call_store hf hname hb hn (by rw [he];exact congrArg _ hi) h5 h6,_,_,h7,FC⟩
  ·cases h
 ·
  rename_i k p k1 old k2 new;split at h
  ·rename_i n hc;split at h
   ·rename_i hk;simp only [Bool.and_eq_true] at hk;have e1:=Fw hk.1;have e2:=Fw hk.2
    subst e1;subst e2;cases hv with | cons _ p' _ _ h1 h2=>cases h2 with | cons _ u _ _ h3 h4=>cases h4 with | cons _ u2 _ _ h5 h6=>cases h6 with | nil =>
    cases h3;cases h5;obtain ⟨a,rfl,h7,h8⟩:=UZ hc hsr h1;split at h
    ·rename_i heq;have heq:n=old:=by simpa using heq
     subst heq;split at h
     ·rename_i σ1 hs;cases h;obtain ⟨a2,u,ha,_,_,h9⟩:=QB hs hsr h1 (.int k new);cases ha;exact .inl ⟨_,_,run_call_cas_hit hf hname hb hn k (by rw [he];exact congrArg _ hi) h7 h8,_,_,h9,.bool _⟩
     ·cases h
    ·rename_i hne;cases h;exact .inl ⟨_,_,run_call_cas_miss hf hname hb hn k (by rw [he];exact congrArg _ hi) h7 h8 (by simpa using hne),_,_,.refl hsr,.bool _⟩
   ·cases h
  ·cases h
 ·
  rename_i k p k1 y;split at h
  ·rename_i n hc;split at h
   ·rename_i hk;have e1:=Fw hk;subst e1;split at h
    ·rename_i σ1 hs;cases h;cases hv with | cons _ p' _ _ h1 h2=>cases h2 with | cons _ u _ _ h3 h4=>cases h4 with | nil =>
     cases h3;obtain ⟨a,rfl,h7,h8⟩:=UZ hc hsr h1;obtain ⟨a2,u,ha,_,_,h9⟩:=QB hs hsr h1 (.int k (k.wrap (n+y)));cases ha;exact .inl ⟨_,_,run_call_add hf hname hb hn k (by rw [he];exact congrArg _ hi) h7 h8 (by rfl),_,_,h9,.int _ _⟩
    ·cases h
   ·cases h
  ·cases h
 ·
  cases h;cases hv;obtain ⟨m,hm⟩:=hi;exact .inl ⟨_,_,run_call_mark0 hf hname hb hn m (by rw [he,hm]) w,_,_,.refl hsr,FC⟩
 ·
  cases h;cases hv with | cons _ p' _ _ h1 h2=>cases h2 with | nil =>
  obtain ⟨m,hm⟩:=hi;obtain ⟨e,he',⟨h3,a,rfl⟩ | ⟨h3,rfl⟩⟩:=h1.ptr_inv
  ·exact .inl ⟨_,_,run_call_marked hf hname hb hn m (by rw [he,hm]) a w,_,_,.refl hsr,FC⟩
  ·exact .inl ⟨_,_,run_call_marked hf hname hb hn m (by rw [he,hm]) _ w,_,_,.refl hsr,FC⟩
 ·
  cases h;cases hv with | cons _ x' _ _ h1 h2=>cases h2 with | nil =>
  exact .inl ⟨x',w,by rw [run_callFunc_extern hf hname hb hn he,hi];rfl,_,_,.refl hsr,h1⟩
 ·
  rename_i elem n;split at h
  ·rename_i hc;simp only [Bool.and_eq_true] at hc;cases h;obtain ⟨ps,t,ht,hsz,hi⟩:=hi;subst hi;cases hv with | cons _ x' _ _ h1 h2=>cases h2 with | nil =>
   cases h1;have hn1:=Nat.le_of_ble_eq_true hc.1;have hn0:0<n:=Nat.blt_eq.mp hc.2;obtain ⟨cs,hrun,hle,hone⟩:=nC (P:=E.P) (w:=w) ps t elem ht n (by omega);have hrun':(Extern.BytealgMakeNoZero.makeNoZero ps #[t] #[.int .i64 (Int.ofNat n)]).run E.P w=_:=hrun;refine .inl ⟨_,_,by rw [run_callFunc_extern hf hname hb hn he];exact congrArg (λ(r:Result Value)=>r.andThen λv w'=>Result.ok (Next.value v) w') hrun',?_⟩;have hw:(w.drew.drew.alloc (.cells cs elem)).heap=w.heap.push (.cells cs elem):=rfl;refine ⟨_,_,M6 hsr (e:=⟨w.heap.size,0,0,cs.size,1⟩) (o:=.blk (List.replicate n .opq) elem 0 false) hw rfl rfl rfl rfl ?_,?_⟩
   ·refine ⟨rfl,λ_=>rfl,hsz.symm,cs,(0,0),?_,rfl,?_,?_,λ_=>Kk⟩
    ·rw [hw];simp
    ·simpa using hle
    ·simp only [List.drop_zero,List.length_replicate];exact Uk n cs.toList (by simpa using hle) hone
   ·exact .ref σ.n 0 n cs.size ⟨w.heap.size,0,0,cs.size,1⟩ (Ren.zAw _ _ _) hle (by simp)
  ·cases h
 ·
  rename_i s c;split at h
  ·rename_i hc;cases h;cases hv with | cons _ x' _ _ h1 h2=>cases h2 with | cons _ y' _ _ h3 h4=>cases h4 with | nil =>
   cases h1;cases h3;have hc:=Nat.blt_eq.mp hc;have hi:g=Extern.BytealgCount.count:=hi;refine .inl ⟨_,_,by rw [run_callFunc_extern hf hname hb hn he,hi];exact congrArg (λ(r:Result Value)=>r.andThen λv w'=>Result.ok (Next.value v) w') (Lib.run_countString _ _ w),_,_,.refl hsr,?_⟩;have:((Int.ofNat c).toNat.toUInt8)=c.toUInt8:=rfl;rw [this];show VR ρ M _ (.int .i64 (Lib.countByte s c.toUInt8:Nat));rw [R7 hc];exact .int _ _
  ·cases h
 ·
  rename_i s c;split at h
  ·rename_i hc;cases h;cases hv with | cons _ x' _ _ h1 h2=>cases h2 with | cons _ y' _ _ h3 h4=>cases h4 with | nil =>
   cases h1;cases h3;have hc:=Nat.blt_eq.mp hc;have hi:g=Extern.BytealgIndexByte.indexByte:=hi;refine .inl ⟨_,_,by rw [run_callFunc_extern hf hname hb hn he,hi];exact congrArg (λ(r:Result Value)=>r.andThen λv w'=>Result.ok (Next.value v) w') (run_indexByte_string _ _ w),_,_,.refl hsr,?_⟩;have:((Int.ofNat c).toNat.toUInt8)=c.toUInt8:=rfl;rw [this,bI hc];exact .int _ _
  ·cases h
 ·exact absurd ⟨_,_,rfl⟩ hins
 ·exact absurd ⟨_,rfl⟩ hlib
 ·cases h
theorem qZ {ms:List Nat} {fr:Fr} {a:Act} {r:ResultVar} {v:V} (h:Jn E fr σ r=some v) (hsr:SR E.P ρ M σ w) (hg:GOk E M) (hfr:FR ρ M ms fr a) :
 ∃ v',(match r with
  | .tmp t=>pure (a.tmps.getD t undef)
  | .cell c t=>do loadVar t (<- asAddr (a.tmps.getD c undef)):Sem Value).run E.P w=.ok v' w/\VR ρ M v v':=by
 cases r with
 | tmp t =>
  obtain ⟨v',h1,h2⟩:=hfr.tmps t v h;exact ⟨v',by simp [Array.getD_eq_getD_getElem?,h1],h2⟩
 | cell c t =>
  unfold Jn at h;simp only at h;split at h
  ·rename_i p hp;obtain ⟨p',h1,h2⟩:=hfr.tmps c p hp;obtain ⟨v',h3,h4⟩:=UE h hsr hg h2;refine ⟨v',?_,h4⟩;have:a.tmps.getD c undef=p':=by simp [Array.getD_eq_getD_getElem?,h1]
   simp only [this];rw [<-h3];unfold SS.loadAt at h;cases h2 with
   | ptrOld=>rfl
   | ptr=>rfl
   | eptr=>rfl
   | gptr=>rfl
   | _=>simp at h
  ·cases h
theorem VA {ms:List Nat} {fr:Fr} {a:Act}: ∀ {rs:List ResultVar} {vs:List V},EJ E fr σ rs=some vs->SR E.P ρ M σ w->GOk E M->FR ρ M ms fr a ->
 ∃ vs',(rs.mapM (λr=>match r with
  | .tmp t=>pure (a.tmps.getD t undef)
  | .cell c t=>do loadVar t (<- asAddr (a.tmps.getD c undef)):ResultVar->Sem Value)).run E.P w=.ok vs' w/\VRL ρ M vs vs'
 | [],vs,h,_,_,_=>by cases h;exact ⟨[],by simp,.nil⟩
 | r :: rs,vs,h,hsr,hg,hfr=>by
  unfold EJ at h;split at h
  ·rename_i v us h1 h2;cases h;obtain ⟨v',h3,h4⟩:=qZ h1 hsr hg hfr;obtain ⟨us',h5,h6⟩:=VA h2 hsr hg hfr;exact ⟨v' :: us',by simp only [List.mapM_cons,Sem.run_bind,h3,Result.andThen_ok,h5,Sem.run_pure],.cons _ _ _ _ h4 h6⟩
  ·cases h
def AL:List V->V
 | [v]=>v
 | l=>.tup l
theorem VB {ms:List Nat} {fn:Func} {fr:Fr} {a:Act} {vs:List V} (h:EJ E fr σ fn.results.toList=some vs) (hsr:SR E.P ρ M σ w) (hg:GOk E M) (hfr:FR ρ M ms fr a) :
 ∃ v',(results fn a.tmps).run E.P w=.ok v' w/\VR ρ M (AL vs) v':=by
 obtain ⟨vs',h1,h2⟩:=VA h hsr hg hfr
 have h3:(fn.results.mapM (λr=>match r with
  | .tmp t=>pure (a.tmps.getD t undef)
  | .cell c t=>do loadVar t (<- asAddr (a.tmps.getD c undef)):ResultVar->Sem Value)).run E.P w=.ok vs'.toArray w:=by
  rw [Array.mapM_eq_mapM_toList,Sem.run_map,h1];rfl
 have h4:(results fn a.tmps).run E.P w=.ok (if h:vs'.toArray.size=1 then vs'.toArray[0] else .tuple vs'.toArray) w:=by
  unfold results;rw [Sem.run_bind];exact congrArg (λ(r:Result (Array Value))=>r.andThen λvs w'=>Sem.run E.P (pure (if h:vs.size=1 then vs[0] else .tuple vs)) w') h3
 refine ⟨_,h4,?_⟩;have hl:=h2.length
 match vs,vs',h2,hl with
 | [],[],h2,_=>exact .tup _ _ h2
 | [v],[v'],h2,_=>cases h2;assumption
 | v :: u :: r,v' :: u' :: r',h2,_=>exact .tup _ _ h2
end
section
variable {E:Env}
def Fg (E:Env) (ρ:Ren) (M:Mem) (σ:St) (w:World) (σ':St) (v:V) (v':Value) (w':World):Prop:=∃ ρ' M',A8 E.P ρ M σ w ρ' M' σ' w'/\VR ρ' M' v v'
def H9 (E:Env) (f:FuncId) (body:List V->St->Option (V×St)):Prop:=∀ {ρ:Ren} {M:Mem} {w:World} {vs:List V} {vs':List Value} {σ σ':St} {v:V},body vs σ=some (v,σ')->SR E.P ρ M σ w->GOk E M->VRL ρ M vs vs' ->
 Calls E.P f vs'.toArray w λ| .returned v',w'=>Fg E ρ M σ w σ' v v' w' | _,_=>False
def Nc (E:Env) (call:SS.Call):Prop:=∀ {ρ:Ren} {M:Mem} {w:World} {f:FuncId} {vs:List V} {vs':List Value} {σ σ':St} {v:V},call f vs σ=some (v,σ')->SR E.P ρ M σ w->GOk E M->VRL ρ M vs vs' ->
 (callFunc f vs'.toArray).run E.P w=.ok (.enter f vs'.toArray) w/\∀ u,CallsDIn Fence.wide 0 E.P f vs'.toArray u w λe u' w'=>u'=u/\match e with | .returned v'=>Fg E ρ M σ w σ' v v' w' | _=>False
theorem Ny: ∀ (vs:List V) (i:Nat) (t:PT V) (j:Nat),(Fp vs i t).get j=if i<=j/\j<i+vs.length then vs[j - i]? else t.get j
 | [],i,t,j=>by
  rw [if_neg (by simp only [List.length_nil];omega)];rfl
 | v :: r,i,t,j=>by
  have:=Ny r (i+1) (t.set i v) j;show (Fp r (i+1) (t.set i v)).get j=_;rw [this];by_cases h1:i+1<=j/\j<i+1+r.length
  ·rw [if_pos h1,if_pos (by simp;omega)];have:j - i=(j - (i+1))+1:=by omega
   rw [this];rfl
  ·rw [if_neg h1,PT.get_set];by_cases h2:j=i
   ·subst h2;rw [if_pos rfl,if_pos (by simp)];simp
   ·rw [if_neg h2,if_neg (by simp;omega)]
theorem Sd {ρ:Ren} {M:Mem} {vs:List V} {vs':List Value} (n:Nat) (h:VRL ρ M vs vs') :
 FR ρ M [] { t:=Fp vs 0 .leaf,n:=vs.length+(n - vs.length),d:=[] } { tmps:=vs'.toArray++Array.replicate (n - vs'.toArray.size) undef,defers:=[] }:=by
 have hl:=h.length;refine ⟨λt v hv=>?_,by simp [hl],.nil⟩;simp only at hv;rw [Ny] at hv;split at hv
 ·rename_i hlt;rw [Nat.sub_zero] at hv;obtain ⟨v',h1,h2⟩:=h.get hv;refine ⟨v',?_,h2⟩;have hlt':t<vs'.length:=by omega
  simp only;rw [Array.getElem?_append_left (by simpa using hlt')];simpa using h1
 ·rw [PT.get_leaf] at hv;cases hv
theorem mA {dcall:SS.Call} (hd:Nc E dcall) {fn:Func} {tmps:Array Value} {R:Ending->World->Prop} {σ':St} {ρ0:Ren} {M0:Mem} {σ0:St} {w0:World} (hsr0:SR E.P ρ0 M0 σ0 w0): ∀ (defers:List Deferred) (ds:List (FuncId×List V)) (ms:List Nat) {ρ:Ren} {M:Mem} {σ:St} {w:World},JD dcall ds σ=some σ' ->
 A8 E.P ρ0 M0 σ0 w0 ρ M σ w->GOk E M->Dv w0.heap.size ρ M w ms->DR ρ M ms ds defers ->
 (∀ ρ' M' w',A8 E.P ρ0 M0 σ0 w0 ρ' M' σ' w'->CT ρ M ρ' M'->∃ v',(results fn tmps).run E.P w'=.ok v' w'/\R (.returned v') w')->LeavesInM Fence.wide 0 E.P fn tmps R defers .returning w:=by
 intro defers
 induction defers with
 | nil =>
  intro ds ms ρ M σ w h s hg hm hds hn;cases hds;cases h;exact hn _ _ _ s (.refl _ _)
 | cons d0 defers ih =>
  intro ds ms ρ M σ w h s hg hm hds hn;cases hds with
  | mark D ms _ _ h2 =>
   have hD:=hm.aside List.mem_cons_self;have hD1:=(hm.at_ D List.mem_cons_self).1;have hnd:=List.nodup_cons.1 hm.nodup;refine ⟨by simp,.inl ⟨D,w.putObj D (.deferred none),rfl,run_takeDeferred hD.at_,?_⟩⟩;refine ih ds ms h (uN hsr0 s _ hD1 hD.ren hD.mem) hg ⟨hnd.2,λD' hD'=>?_⟩ h2 hn;obtain ⟨q1,q2,q3,q4⟩:=hm.at_ D' (List.mem_cons_of_mem _ hD');exact ⟨q1,(World.putObj_heap_other (λe=>hnd.1 (by rw [<-e];exact hD'))).trans q2,q3,q4⟩
  | fn f vs cap args _ ds _ h1 h2 =>
   unfold JD at h;split at h
   ·rename_i v σ1 hc;obtain ⟨h3,h4⟩:=hd hc s.sr hg h1;have he:(args++cap).toList.toArray=args++cap:=by simp
    rw [he] at h3 h4;refine ⟨by simp,.inr ⟨Qh.dep,.func f,cap,f,args++cap,rfl,by simpa [invoke] using h3,λ_ _=>trivial,(h4 .returning).mono λe u' w' hh=>?_⟩⟩;obtain ⟨rfl,hh⟩:=hh;cases e with
    | returned v' =>
     obtain ⟨ρ1,M1,s1,_⟩:=hh;show LeavesInM Fence.wide 0 E.P fn tmps R defers (settle .returning) w';exact ih ds ms h (s.trans s1) (hg.mono s1.g.mem) (hm.step s1) (h2.mono s1.g) λρ2 M2 w2 s2 g2=>hn _ _ _ s2 (s1.g.trans g2)
    | panicked _=>exact hh.elim
    | outgrown=>exact hh.elim
   ·cases h
theorem sB (hback: ∀ f,E.back f=true->LQ E.P f) (hval:FJ E) (hbi:FE E) {call dcall:SS.Call} (hcall:Ew E call) (hd:Nc E dcall) {k:Nat} {f:FuncId} {fn:Func} {c:Code} (hf:E.P.funcs[f]? = some fn) (hb:fn.body=some c) (hok:EF E c=true) :
 H9 E f (Jp E call dcall (Cw E call) k fn c):=by
 intro ρ M w vs vs' σ σ' v h hsr hg hv;have hcode:JA E c _:=Q6 hback hval hbi hcall (SG hval hbi hcall) k c hok;refine (callsIn_wide (n:=0)).1 (callsIn_of_wp_marks hf hb trivial ?_)
 have main: ∀ (x:AEx) (fr:Fr) (σ1:St),(x=.norm\/x=.ret)->BL E call (Cw E call) k c { t:=Fp vs 0 .leaf,n:=vs.length+(fn.ntmps - vs.length),d:=[] } σ=some (x,fr,σ1) ->
  (match JD dcall fr.d σ1 with
  | some σ''=>match EJ E fr σ'' fn.results.toList with
   | some [v]=>some (v,σ'')
   | some l=>some (.tup l,σ'')
   | none=>none
  | none=>none)=some (v,σ') ->
   c.wpIn Fence.wide 0 E.P (bodyPostM Fence.wide 0 E.P fn λ| .returned v',w'=>Fg E ρ M σ w σ' v v' w' | _,_=>False) { tmps:=vs'.toArray++Array.replicate (fn.ntmps - vs'.toArray.size) undef,defers:=[] } w:=by
  intro x fr σ1 hx hr h;split at h
  ·rename_i σ2 hds;have hpack: ∃ l,EJ E fr σ2 fn.results.toList=some l/\v=AL l/\σ2=σ':=by
    split at h
    ·rename_i u hu;cases h;exact ⟨_,hu,rfl,rfl⟩
    ·rename_i l hne hu;cases h;refine ⟨_,hu,?_,rfl⟩;unfold AL
     split
     ·exact absurd rfl (hne _)
     ·rfl
    ·cases h
   obtain ⟨l,hl,rfl,rfl⟩:=hpack;refine hcode Qh (.inl rfl) hr hsr hg (Dv.nil w.heap.size _ _ _) (Nat.le_refl _) (Sd fn.ntmps hv) λρ' M' a' w' ms' s hmk _ hfr=>?_
   have hleave:LeavesInM Fence.wide 0 E.P fn a'.tmps (λ| .returned v',w'=>Fg E ρ M σ w σ2 (AL l) v' w' | _,_=>False) a'.defers .returning w':=by
    refine mA hd hsr a'.defers fr.d ms' hds s (hg.mono s.g.mem) hmk hfr.defers λρ2 M2 w2 s2 g2=>?_
    obtain ⟨v',h1,h2⟩:=VB hl s2.sr ((hg.mono s.g.mem).mono g2.mem) (hfr.mono g2);exact ⟨v',h1,ρ2,M2,s2,h2⟩
   rcases hx with rfl | rfl
   ·exact hleave
   ·exact hleave
  ·cases h
 unfold Jp at h;split at h
 ·rename_i fr σ1 hr;exact main .norm fr σ1 (.inl rfl) hr h
 ·rename_i fr σ1 hr;exact main .ret fr σ1 (.inr rfl) hr h
 ·cases h
theorem ZM (hE:Eg E) (hval:FJ E) (hbi:FE E) {call:SS.Call} (hcall:Ew E call) (k:Nat):Nc E (OJ E call k):=by
 intro ρ M w f vs vs' σ σ' v h hsr hg hv;unfold OJ at h;split at h
 ·rename_i fn he hf;split at h
  ·rename_i c hb;split at h
   rotate_left 1
   ·cases h
   rename_i hcalm;obtain ⟨hok,hname⟩:=hE.code f fn c he hf hb;have h1:fn.name≠ "runtime.NumGoroutine" := by simpa using hname
   refine ⟨by simp [callFunc,hf,h1,hb],λu=>?_⟩;have hcode:JA E c _:=Q6 hE.back hval hbi hcall (SG hval hbi hcall) k c hok;refine (callsDIn_of_wp (F:=Fence.wide) (n:=0) (R:=λ| .returned v',w'=>Fg E ρ M σ w σ' v v' w' | _,_=>False) hf hb trivial ?_).mono λe u' w' hh=>⟨hh.1,by cases e<;>exact hh.2⟩
   have main: ∀ (x:AEx) (fr:Fr) (σ1:St),(x=.norm\/x=.ret)->BL E call (Cw E call) k c { t:=Fp vs 0 .leaf,n:=vs.length+(fn.ntmps - vs.length),d:=[] } σ=some (x,fr,σ1) ->
    (match fr.d,EJ E fr σ1 fn.results.toList with
      | [],some [v]=>some (v,σ1)
      | [],some l=>some (.tup l,σ1)
      | _,_=>none)=some (v,σ') ->
    c.wpIn Fence.wide 0 E.P (bodyPost E.P fn λ| .returned v',w'=>Fg E ρ M σ w σ' v v' w' | _,_=>False) { tmps:=vs'.toArray++Array.replicate (fn.ntmps - vs'.toArray.size) undef,defers:=[] } w:=by
    intro x fr σ1 hx hr h;have hpack:fr.d=[]/\∃ l,EJ E fr σ1 fn.results.toList=some l/\v=AL l/\σ1=σ':=by
     split at h
     ·rename_i u hd hu;cases h;exact ⟨hd,_,hu,rfl,rfl⟩
     ·rename_i l hne hd hu;cases h;refine ⟨hd,_,hu,?_,rfl⟩;unfold AL
      split
      ·exact absurd rfl (hne _)
      ·rfl
     ·cases h
    obtain ⟨hd,l,hl,rfl,rfl⟩:=hpack;refine hcode Qh (.inl rfl) hr hsr hg (Dv.nil w.heap.size _ _ _) (Nat.le_refl _) (Sd fn.ntmps hv) λρ' M' a' w' ms' s hmk hms hfr=>?_
    have hms:=hms hcalm;subst hms;have hdd:a'.defers=[]:=by
     have:=hfr.defers;rw [hd] at this;generalize a'.defers=l at this;cases this;rfl
    obtain ⟨v',h1,h2⟩:=VB hl s.sr (hg.mono s.g.mem) hfr;rcases hx with rfl | rfl
    ·exact ⟨hdd,v',h1,ρ',M',s,h2⟩
    ·exact ⟨hdd,v',h1,ρ',M',s,h2⟩
   unfold VK at h;split at h
   ·rename_i fr σ1 hr;exact main .norm fr σ1 (.inl rfl) hr h
   ·rename_i fr σ1 hr;exact main .ret fr σ1 (.inr rfl) hr h
   ·cases h
  ·cases h
 ·cases h
theorem tY {ρ:Ren} {M:Mem} {σ:St} {w:World} (h:SR E.P ρ M σ w) (t:Nat):SR E.P ρ M { σ with tch:=t } w:=⟨h.fits,h.bd,h.inj,h.mem,h.disj⟩
theorem uJ {ρ ρ':Ren} {M M':Mem} {σ σ':St} {w w':World} (h:SR E.P ρ M σ w) (s:A8 E.P ρ M { σ with tch:=σ.n } w ρ' M' σ' w') (ht:σ.n<=σ'.tch) {v:V} {v':Value} (hv:VR ρ' M' v v') (hu:v.under σ.n=true) :
 A8 E.P ρ M σ w ρ M' σ w'/\VR ρ M' v v':=by
 have g:CT ρ M ρ M':=⟨λb e he=>⟨e,he,.inl rfl⟩,s.g.mem⟩
 have held: ∀ b e,ρ b=some e->ρ' b=some e/\w'.heap[e.x]? = w.heap[e.x]? := λb e he=>s.held b e he (Nat.lt_of_lt_of_le (h.bd b e he) ht)
 refine ⟨⟨⟨λb e he=>(h.fits b e he).mono g (held b e he).2,h.bd,h.inj,s.sr.mem,λb e he=>s.sr.disj b e (held b e he).1⟩,g,s.frame,s.size,λb e he=>.inl ⟨b,e,he,rfl⟩,λ_ e he _=>⟨e,he⟩,s.freshM,s.os,s.tape,s.output,Nat.le_refl _,Nat.le_refl _,λ_ _ _=>rfl,λ_ _ _=>rfl,λb e he _=>⟨he,(held b e he).2⟩⟩,?_⟩;refine hv.under (λb e hb he=>?_) (λ_ _ h=>h) hu;obtain ⟨e0,he0⟩:=s.old b e he hb;have:=(held b e0 he0).1;rw [he] at this;cases this;exact he0
end
def Cg:Ren:=λ_=>none
section
variable {E:Env} {ρ:Ren} {M M':Mem} {σ:St} {w:World}
theorem Kg {n:Nat}: ∀ {xs ys:List V},xs.mapM (frz E σ n)=some ys->ys.length=xs.length/\∀ (i:Nat) (x:V),xs[i]? = some x->∃ y,ys[i]? = some y/\frz E σ n x=some y
 | [],ys,h=>by simp at h;subst h;exact ⟨rfl,λi x h=>by simp at h⟩
 | x :: xs,ys,h=>by
  rw [List.mapM_cons] at h;cases hx:frz E σ n x with
  | none=>rw [hx] at h;simp at h
  | some y =>
   rw [hx] at h;cases hxs:xs.mapM (frz E σ n) with
   | none=>rw [hxs] at h;simp at h
   | some zs =>
    rw [hxs] at h;simp at h;subst h;obtain ⟨h1,h2⟩:=Kg hxs;refine ⟨by simp [h1],λi u hu=>?_⟩;cases i with
    | zero=>simp at hu;subst hu;exact ⟨y,rfl,hx⟩
    | succ i=>simpa using h2 i u (by simpa using hu)
theorem O4 {n:Nat} (ih: ∀ {v u:V} {v':Value},frz E σ n v=some u->VR ρ M v v'->VR Cg M' u v'): ∀ {xs ys:List V} {l:List Value},xs.mapM (frz E σ n)=some ys->VRL ρ M xs l->VRL Cg M' ys l:=by
 intro xs ys l h hl;obtain ⟨h1,h2⟩:=Kg h;refine .of_get (by rw [h1];exact hl.length) λi y hy=>?_
 have hi:i<xs.length:=by rw [<-h1];exact (List.getElem?_eq_some_iff.1 hy).1
 obtain ⟨y',h3,h4⟩:=h2 i xs[i] (by simp [hi]);rw [hy] at h3;cases h3;obtain ⟨v',h5,h6⟩:=hl.get (i:=i) (v:=xs[i]) (by simp [hi]);exact ⟨v',h5,ih h4 h6⟩
theorem bT {n:Nat} (ih: ∀ {v u:V} {v':Value},frz E σ n v=some u->VR ρ M v v'->VR Cg M' u v') (ihL: ∀ (m:Nat),n=m+1->∀ {xs ys:List V} {l:List Value},xs.mapM (frz E σ m)=some ys->VRL ρ M xs l->VRL Cg M' ys l)
 {x y:V} {l:List Value} (h:frz E σ n x=some y) (hl:VRL ρ M x.cells l):VRL Cg M' y.cells l/\y.cells.length=x.cells.length:=by
 cases n with
 | zero=>cases h
 | succ m =>
  cases x with
  | agg cs =>
   unfold frz at h;simp only at h;split at h
   ·rename_i ys hys;cases h;exact ⟨ihL m rfl hys hl,(Kg hys).1⟩
   ·cases h
  | _ =>
   cases hl with
   | cons _ v' _ _ h1 h2 =>
    cases h2;have h3:=ih h h1;have hone:y.one=true\/∃ vs,y=.tup vs:=by
     simp only [frz] at h
     (repeat' split at h)<;>first | contradiction | (cases h;first | exact .inl rfl | exact .inr ⟨_,rfl⟩)
    have hc:y.cells=[y]:=by
     rcases hone with hone | ⟨vs,rfl⟩
     ·cases y<;>first | rfl | (simp [V.one] at hone)
     ·rfl
    rw [hc];exact ⟨.cons _ _ _ _ h3 .nil,rfl⟩
theorem Bz.extend {sz:Nat} {xs:List V} {l:List Value} (h:Bz ρ M sz xs l) (t:List Value):Bz ρ M sz xs (l++t):=by
 induction xs generalizing l with
 | nil=>exact .nil _ _
 | cons x xs ih =>
  cases h with
  | cons _ _ _ cs l h1 h2 h3 =>
   rw [List.append_assoc];exact .cons _ _ _ _ _ h1 h2 (ih h3)
theorem O5 {n sz:Nat} (ih: ∀ {x y:V} {l:List Value},frz E σ n x=some y->VRL ρ M x.cells l->VRL Cg M' y.cells l/\y.cells.length=x.cells.length): ∀ {xs ys:List V} {l:List Value},xs.mapM (frz E σ n)=some ys->Bz ρ M sz xs l->Bz Cg M' sz ys l
 | [],ys,l,h,_=>by simp at h;subst h;exact .nil _ _
 | x :: xs,ys,l,h,hl=>by
  rw [List.mapM_cons] at h;cases hx:frz E σ n x with
  | none=>rw [hx] at h;simp at h
  | some y =>
   rw [hx] at h;cases hxs:xs.mapM (frz E σ n) with
   | none=>rw [hxs] at h;simp at h
   | some zs =>
    rw [hxs] at h;simp at h;subst h;cases hl with
    | cons _ _ _ cs l h1 h2 h3 =>
     obtain ⟨h4,h5⟩:=ih hx h1;exact .cons _ _ _ _ _ h4 (h5.trans h2) (O5 ih hxs h3)
theorem O6 (hsr:SR E.P ρ M σ w) (hm: ∀ x o,M x=some o->M' x=some o) (hr: ∀ b e o,ρ b=some e->w.heap[e.x]? = some o->M' e.x=some o): ∀ (n:Nat) {v u:V} {v':Value},frz E σ n v=some u->VR ρ M v v'->VR Cg M' u v':=by
 intro n
 induction n with
 | zero=>intro v u v' h;cases h
 | succ n ih =>
  intro v u v' h hv;have ihc: ∀ {x y:V} {l:List Value},frz E σ n x=some y->VRL ρ M x.cells l->VRL Cg M' y.cells l/\y.cells.length=x.cells.length:=by
   intro x y l h1 h2;refine bT (n:=n) ih (λm hm'=>?_) h1 h2;subst hm';intro xs ys l h3 h4;refine O4 (λ{v u v'} h5 h6=>?_) h3 h4;have:frz E σ (m+1) (.tup [v])=some (.tup [u]):=by simp [frz,h5]
   have:=ih this (.tup _ _ (.cons _ _ _ _ h6 .nil));cases this with
   | tup _ _ h7=>cases h7 with | cons _ _ _ _ h8 _=>exact h8
  simp only [frz] at h;split at h
  ·cases h;cases hv;exact .emp _ _ (λ_=>rfl)
  ·cases h;cases hv;exact .emp _ _ (λh=>by cases h)
  ·rename_i xs full hne;split at h
   ·rename_i ys hys;cases h;cases hv with
    | lst0=>exact (hne rfl).elim
    | lst x xs _ b o cap cs t fr h1 h2 h3 h4 =>
     have hl:=(Kg hys).1;have:=VR.zAm (full:=false) (hm _ _ h1) (O5 ihc hys h2) (by rw [hl];simpa using h3) (λh=>by cases h);rw [hl] at this;exact this
   ·cases h
  ·split at h
   ·rename_i ys hys;cases h;cases hv with
    | agg _ cs' h1=>exact .agg _ _ (O4 ih hys h1)
   ·cases h
  ·split at h
   ·rename_i ys hys;cases h;cases hv with
    | tup _ cs' h1=>exact .tup _ _ (O4 ih hys h1)
   ·cases h
  ·split at h
   ·rename_i y hy;cases h;cases hv with
    | ifc t x x' h1=>exact .ifc _ _ _ (ih hy h1)
   ·cases h
  ·rename_i b ver off len cap;split at h
   ·rename_i cs ty ver' fz hb;split at h
    ·rename_i i d hi hd;split at h
     ·rename_i hc;simp only [Bool.and_eq_true] at hc;obtain ⟨⟨hver,hsz⟩,hle⟩:=hc;have hver:=Nat.eq_of_beq_eq_true hver;have hle:=Nat.le_of_ble_eq_true hle;obtain ⟨e,he,hcase⟩:=hv.ref_inv;obtain ⟨hve,_,_,cs',fr,hh,hsize,hlec,hvl,_⟩:=CV hsr he hb;have hform:(∃ c,len<=c/\v'=.slice (some ⟨e.x,e.s+off,none⟩) len c)\/(len=0/\∃ a c,v'=.slice (some a) 0 c):=by
       rcases hcase with ⟨hlt,_⟩ | ⟨_,c,_,h1,rfl⟩ | ⟨_,_,c,h1,_,rfl⟩ | ⟨_,_,h0,_,a,rfl⟩
       ·omega
       ·exact .inl ⟨c,h1,rfl⟩
       ·exact .inl ⟨c,h1,rfl⟩
       ·exact .inr ⟨h0,_,_,rfl⟩
      have hdrop:=hvl.drop off;split at h
      ·rename_i hch;cases h;obtain ⟨_,hlen⟩:=Li hch hdrop;have h0:len=0:=by simpa using hlen.symm
       subst h0;rcases hform with ⟨c,_,rfl⟩ | ⟨_,a,c,rfl⟩
       ·exact .emp _ _ (λh=>by cases h)
       ·exact .emp _ _ (λh=>by cases h)
      ·rename_i xs hne hch;split at h
       ·rename_i ys hys;cases h;obtain ⟨hrows,hlen⟩:=Li hch hdrop;have hrow2:Bz ρ M i.size xs (cs'.toList.drop (e.s+off)):=by
         have e1:cs'.toList.drop (e.s+off)=(((cs'.toList.drop e.s).take cs.length).drop off)++(cs'.toList.drop (e.s+off)).drop (cs.length - off):=by
          rw [List.drop_take,List.drop_drop,List.take_append_drop]
         rw [e1];exact hrows.extend _
        have hl:=(Kg hys).1;rcases hform with ⟨c,hc,rfl⟩ | ⟨h0,_⟩
        ·have:=VR.zAm (full:=false) (cap:=c) (hr b e _ he hh) (O5 ihc hys hrow2) (by rw [hl,hlen];exact hc) (λh=>by cases h);rw [hl,hlen] at this;exact this
        ·rw [h0] at hlen;have:xs=[]:=List.eq_nil_of_length_eq_zero hlen;exact absurd this hne
       ·cases h
      ·cases h
     ·cases h
    ·cases h
   ·cases h
  ·cases h;cases hv<;>exact .opq _ rfl
  ·cases h;cases hv<;>exact .opq _ rfl
  ·cases h;cases hv<;>exact .opq _ rfl
  ·cases h;cases hv<;>exact .opq _ rfl
  ·cases h;cases hv<;>exact .opq _ rfl
  ·cases h;cases hv with
   | bool b=>exact .bool b
   | int k n=>exact .int k n
   | str s=>exact .str s
   | emp a c h=>exact .emp a c h
   | ptr0=>exact .ptr0
   | map0=>exact .map0
   | fn0=>exact .fn0
   | if0=>exact .if0
   | opq _ h=>exact .opq _ h
   | _=>exfalso;solve_by_elim
end
section
variable {E:Env} {ρ ρ2:Ren} {M M1 M2:Mem} {σ σ2:St} {w w2:World}
def Fy (M:Mem) (w w2:World):Mem:=λx=>if x<w.heap.size then M x else w2.heap[x]?
theorem uL (h:SR E.P ρ M σ w) (s:A8 E.P Cg M1 St.empty w ρ2 M2 σ2 w2):A8 E.P ρ M σ w ρ (Fy M w w2) σ w2:=by
 have hf: ∀ x,x<w.heap.size->w2.heap[x]? = w.heap[x]? := λx hx=>s.frame x hx λb e he=>(by cases he)
 have hlt: ∀ x o,M x=some o->x<w.heap.size:=λx o ho=>(Array.getElem?_eq_some_iff.1 (h.mem x o ho)).1
 have g:CT ρ M ρ (Fy M w w2):=⟨λb e he=>⟨e,he,.inl rfl⟩,λx o ho=>by unfold Fy;rw [if_pos (hlt x o ho)];exact ho⟩
 refine ⟨⟨λb e he=>(h.fits b e he).mono g (hf _ (h.lt he)),h.bd,h.inj,λx o ho=>?_,λb e he=>?_⟩,g,λx hx _=>hf x hx,s.size,λb e he=>.inl ⟨b,e,he,rfl⟩,λ_ e he _=>⟨e,he⟩,λx o ho=>?_,s.os,s.tape,s.output,Nat.le_refl _,Nat.le_refl _,λ_ _ _=>rfl,λ_ _ _=>rfl,
  λb e he _=>⟨he,hf _ (h.lt he)⟩⟩
 ·unfold Fy at ho;split at ho
  ·rename_i hx;rw [hf x hx];exact h.mem x o ho
  ·exact ho
 ·unfold Fy;rw [if_pos (h.lt he)];exact h.disj b e he
 ·unfold Fy at ho;split at ho
  ·exact .inl ho
  ·rename_i hx;exact .inr (by omega)
theorem VR.from {v:V} {v':Value} {M':Mem} (h:VR Cg M' v v'):VR ρ M' v v':=h.mono ⟨λ_ _ h=>(by cases h),λ_ _ h=>h⟩
theorem nY (h:SR E.P ρ M σ w) (σ':St):SR E.P Cg M σ' w:=⟨λ_ _ h=>(by cases h),λ_ _ h=>(by cases h),λ_ _ _ _ h=>(by cases h),h.mem,λ_ _ h=>(by cases h)⟩
theorem TM (h:SR E.P ρ M σ w): ∀ {vs ws:List V} {vs':List Value},Bd E σ vs=some ws->V.kind.kinds vs<=1->VRL ρ M vs vs'->VRL Cg M ws vs'
 | [],ws,vs',hf,_,hv=>by cases hf;cases hv;exact .nil
 | v :: vs,ws,vs',hf,hk,hv=>by
  cases hv with | cons _ v' _ vs' h1 h2 =>
  simp only [V.kind.kinds] at hk;have hv1:v.kind<=1:=by omega
  have hn:VR Cg M v v':=h1.under (n:=0) (λb e hb=>by omega) (λ_ _ h=>h) (Jc v hv1);unfold Bd at hf;split at hf
  ·rename_i x xs hx hxs;cases hf;refine .cons _ _ _ _ ?_ (TM h hxs (by omega) h2);cases hb:Nat.beq v.kind 0 with
   | true=>rw [hb] at hx;cases hx;exact hn
   | false =>
    rw [hb] at hx;exact O6 (nY h σ) (λ_ _ h=>h) (λ_ _ _ h=>(by cases h)) _ hx hn
  ·cases hf
open Classical in
noncomputable def Fm (ρ:Ren) (M:Mem) (w:World):Mem:=λx=>match M x with
 | some o=>some o
 | none=>if ∃ b e,ρ b=some e/\e.x=x then w.heap[x]? else none
theorem Nt (ρ:Ren) (M:Mem) (w:World) {x:Nat} {o:Obj} (h:M x=some o):Fm ρ M w x=some o:=by unfold Fm;rw [h]
theorem YO (h:SR E.P ρ M σ w) {b:Nat} {e:Ent} {o:Obj} (he:ρ b=some e) (ho:w.heap[e.x]? = some o):Fm ρ M w e.x=some o:=by
 unfold Fm;rw [h.disj b e he];simp only;rw [if_pos ⟨b,e,he,rfl⟩];exact ho
theorem YP (h:SR E.P ρ M σ w): ∀ x o,Fm ρ M w x=some o->w.heap[x]? = some o:=by
 intro x o ho;unfold Fm at ho;split at ho
 ·rename_i o' hm;cases ho;exact h.mem x _ hm
 ·split at ho
  ·exact ho
  ·cases ho
theorem O3 (h:SR E.P ρ M σ w): ∀ {vs ws:List V} {vs':List Value},Bd E σ vs=some ws->VRL ρ M vs vs'->VRL Cg (Fm ρ M w) ws vs'
 | [],ws,vs',hf,hv=>by cases hf;cases hv;exact .nil
 | v :: vs,ws,vs',hf,hv=>by
  cases hv with | cons _ v' _ vs' h1 h2 =>
  unfold Bd at hf;split at hf
  ·rename_i x xs hx hxs;cases hf;refine .cons _ _ _ _ ?_ (O3 h hxs h2);cases hb:Nat.beq v.kind 0 with
   | true =>
    rw [hb] at hx;cases hx;have hk:=Nat.eq_of_beq_eq_true hb;exact h1.under (n:=0) (λb e hb=>by omega) (λ_ _ h=>Nt ρ M w h) (Jc _ (by omega))
   | false =>
    rw [hb] at hx;exact O6 h (λ_ _ h=>Nt ρ M w h) (λ_ _ _ he ho=>YO h he ho) _ hx h1
  ·cases hf
theorem qH {f:FuncId} {body:List V->St->Option (V×St)} (hb:H9 E f body) {vs ws:List V} {vs':List Value} {v:V} (hsr:SR E.P ρ M σ w) (hg:GOk E M) (hv:VRL ρ M vs vs') (hf:Bd E σ vs=some ws) (hp:P5 E body ws=some v)
 (hok:(Nat.ble (V.kind.kinds vs) 1||v.scal)=true):Calls E.P f vs'.toArray w λ| .returned v',w'=>Fg E ρ M σ w σ v v' w' | _,_=>False:=by
 unfold P5 at hp;split at hp
 ·rename_i v0 σ2 hr
  have back: ∀ (M1:Mem),(∀ x o,M1 x=some o->w.heap[x]? = some o)->(∀ x o,M x=some o->M1 x=some o)->VRL Cg M1 ws vs'->(∀ x o,x<w.heap.size->M1 x=some o->v.scal=true\/M x=some o) ->
   Calls E.P f vs'.toArray w λ| .returned v',w'=>Fg E ρ M σ w σ v v' w' | _,_=>False:=by
   intro M1 hmem hold hws hM1;refine (hb hr (ρ:=Cg) (M:=M1) ⟨λ_ _ h=>(by cases h),λ_ _ h=>(by cases h),λ_ _ _ _ h=>(by cases h),hmem,λ_ _ h=>(by cases h)⟩ (hg.mono hold) hws).mono λe w2 he=>?_
   cases e with
   | panicked _=>exact he.elim
   | outgrown=>exact he.elim
   | returned v' =>
    obtain ⟨ρ2,M2,s,hv0⟩:=he;refine ⟨ρ,Fy M w w2,uL hsr s,?_⟩;have hs2:=s.sr;have key: ∀ M4:Mem,(∀ x o,M2 x=some o->M4 x=some o)->(∀ x o,w.heap.size<=x->w2.heap[x]? = some o->M4 x=some o)->VR Cg M4 v v':=by
     intro M4 h1 h2;split at hp
     ·rename_i hk;cases hp;have hk:=Nat.eq_of_beq_eq_true hk;exact hv0.under (n:=0) (λb e hb=>by omega) h1 (Jc _ (by omega))
     ·refine O6 hs2 h1 (λb e o he ho=>h2 _ _ ?_ ho) _ hp hv0;rcases s.fresh b e he with ⟨_,_,hx,_⟩ | hx
      ·cases hx
      ·exact hx
    by_cases hsc:v.scal=true
    ·have:=key (λx=>w2.heap[x]?) (λx o ho=>hs2.mem x o ho) (λx o _ ho=>ho);exact Mr this hsc
    ·refine (key (Fy M w w2) (λx o ho=>?_) (λx o hx ho=>?_)).from
     ·unfold Fy
      split
      ·rename_i hx;rcases s.freshM x o ho with h1 | h1
       ·rcases hM1 x o hx h1 with h2 | h2
        ·exact absurd h2 hsc
        ·exact h2
       ·omega
      ·exact hs2.mem x o ho
     ·unfold Fy;rw [if_neg (by omega)];exact ho
  rw [Bool.or_eq_true] at hok;by_cases hk:V.kind.kinds vs<=1
  ·exact back M hsr.mem (λ_ _ h=>h) (TM hsr hf hk hv) λx o _ h=>.inr h
  ·have hsc:v.scal=true:=hok.resolve_left λh=>hk (Nat.le_of_ble_eq_true h)
   exact back (Fm ρ M w) (YP hsr) (λ_ _ h=>Nt ρ M w h) (O3 hsr hf hv) λ_ _ _ _=>.inl hsc
 ·cases hp
end
section
variable {E:Env}
theorem Tr {ρ:Ren} {M:Mem} {a:V} {v':Value} (h:VR ρ M a v') (he:a.isEmp=true):VR ρ M .emp v':=by
 cases h<;>first | exact .emp _ _ (λ_=>rfl) | exact .emp _ _ (by assumption) | exact .emp _ _ (λh=>by cases h) | (simp [V.isEmp] at he)
theorem SK {f:FuncId} {body:List V->St->Option (V×St)} (hb:H9 E f body) {ρ:Ren} {M:Mem} {w:World} {vs:List V} {vs':List Value} {σ:St} {v:V} (h:Lm body vs σ=some v) (hsr:SR E.P ρ M σ w) (hg:GOk E M) (hv:VRL ρ M vs vs') :
 Calls E.P f vs'.toArray w λ| .returned v',w'=>Fg E ρ M σ w σ v v' w' | _,_=>False:=by
 unfold Lm at h;split at h
 ·rename_i v1 σ1 h1;split at h
  ·rename_i hc;cases h;simp only [Bool.and_eq_true] at hc;refine (hb h1 (tY hsr _) hg hv).mono λe w' he=>?_
   cases e with
   | panicked _=>exact he.elim
   | outgrown=>exact he.elim
   | returned v' =>
    obtain ⟨ρ',M',s,hr⟩:=he;obtain ⟨s2,hr2⟩:=uJ hsr s (Nat.le_of_ble_eq_true hc.1) hr hc.2;exact ⟨_,_,s2,hr2⟩
  ·cases h
 ·cases h
end
section
variable {ρ:Ren} {M:Mem} {E:Env} {w:World} {σ:St}
theorem mC {t:TypeId} {x v:V} {x':Value} {ts:Array TypeId} (ty:TypeId) (h:Gb E t x σ=some v) (hts:ts[0]? = some t) (hsr:SR E.P ρ M σ w) (hx:VR ρ M x x') :
 ∃ v',(Builtin.len_ ts ty #[x']).run E.P w=.ok v' w/\VR ρ M v v':=by
 have h0:(#[x']:Array Value)[0]? = some x':=rfl;unfold Gb at h;split at h
 ·rename_i s ht;cases h;cases hx;refine ⟨_,(by simp only [Builtin.len_,hts,h0,Sem.run_bind,BC ht,Result.andThen_ok,Sem.run_pure];rfl),?_⟩;have:goInt (⟨s.toArray⟩:ByteArray).size=.int .i64 (s.length:Int):=by simp [goInt,ByteArray.size]
  rw [this];exact .int _ _
 ·rename_i e ht;cases h;cases hx;exact ⟨_,(by simp only [Builtin.len_,hts,h0,Sem.run_bind,BC ht,Result.andThen_ok,Sem.run_pure];rfl),.int _ _⟩
 ·rename_i e ht;cases h;cases hx;exact ⟨_,(by simp only [Builtin.len_,hts,h0,Sem.run_bind,BC ht,Result.andThen_ok,Sem.run_pure];rfl),.int _ _⟩
 ·rename_i e xs f ht;cases h;cases hx
  ·exact ⟨_,(by simp only [Builtin.len_,hts,h0,Sem.run_bind,BC ht,Result.andThen_ok,Sem.run_pure];rfl),.int _ _⟩
  ·exact ⟨_,(by simp only [Builtin.len_,hts,h0,Sem.run_bind,BC ht,Result.andThen_ok,Sem.run_pure];rfl),.int _ _⟩
 ·rename_i e b ver off len cap ht;cases h;have hs: ∃ a c,x'=.slice a len c:=by cases hx<;>exact ⟨_,_,rfl⟩
  obtain ⟨a,c,rfl⟩:=hs;exact ⟨_,(by simp only [Builtin.len_,hts,h0,Sem.run_bind,BC ht,Result.andThen_ok,Sem.run_pure];rfl),.int _ _⟩
 ·rename_i n e ht;cases h;exact ⟨_,(by simp only [Builtin.len_,hts,h0,Sem.run_bind,BC ht,Result.andThen_ok,Sem.run_pure];rfl),.int _ _⟩
 ·rename_i a b ht;cases h;cases hx;exact ⟨_,(by simp only [Builtin.len_,hts,h0,Sem.run_bind,BC ht,Result.andThen_ok,Sem.run_pure];rfl),.int _ _⟩
 ·rename_i a b b0 ht;split at h
  ·rename_i es clock hb;cases h;obtain ⟨e,he,_,rfl⟩:=hx.map_inv;obtain ⟨_,es',hh,hr⟩:=IZ hsr he hb;refine ⟨_,(by simp only [Builtin.len_,hts,h0,Sem.run_bind,BC ht,Result.andThen_ok,GZ hh,Sem.run_pure];rfl),?_⟩;have hl: ∀ {l:List (V×V×Nat)} {l':List MapEntry},MRL ρ M l l'->l.length=l'.length:=by
    intro l l' h;induction h with
    | nil=>rfl
    | cons _ _ _ _ _ _ _ _ _ _ ih=>simp [ih]
   have:goInt es'.size=.int .i64 (es.length:Int):=by simp [goInt,hl hr]
   rw [this];exact .int _ _
  ·cases h
 ·cases h
theorem ZP {t:TypeId} {x v:V} {x':Value} {ts:Array TypeId} (ty:TypeId) (h:OL E t x=some v) (hts:ts[0]? = some t) (hx:VR ρ M x x') :
 ∃ v',(Builtin.cap_ ts ty #[x']).run E.P w=.ok v' w/\VR ρ M v v':=by
 have h0:(#[x']:Array Value)[0]? = some x':=rfl;unfold OL at h;split at h
 ·rename_i e ht;cases h;cases hx;exact ⟨_,(by simp only [Builtin.cap_,hts,h0,Sem.run_bind,BC ht,Result.andThen_ok,Sem.run_pure];rfl),.int _ _⟩
 ·rename_i e xs ht;cases h;cases hx with
  | lst0 _ a c hc =>
   have:=hc rfl;subst this;exact ⟨_,(by simp only [Builtin.cap_,hts,h0,Sem.run_bind,BC ht,Result.andThen_ok,Sem.run_pure];rfl),.int _ _⟩
  | lst x xs _ b o c cs t' fr h1 h2 h3 h4 =>
   have:=h4 rfl;subst this;exact ⟨_,(by simp only [Builtin.cap_,hts,h0,Sem.run_bind,BC ht,Result.andThen_ok,Sem.run_pure];rfl),.int _ _⟩
 ·rename_i e b ver off len c ht;cases h;have hs: ∃ a,x'=.slice a len c:=by
   cases hx with
   | refOld _ _ _ _ _ _ a c' _ _ _ h4=>have:=h4 c rfl;subst this;exact ⟨_,rfl⟩
   | refCap=>exact ⟨_,rfl⟩
  obtain ⟨a,rfl⟩:=hs;exact ⟨_,(by simp only [Builtin.cap_,hts,h0,Sem.run_bind,BC ht,Result.andThen_ok,Sem.run_pure];rfl),.int _ _⟩
 ·rename_i n e ht;cases h;exact ⟨_,(by simp only [Builtin.cap_,hts,h0,Sem.run_bind,BC ht,Result.andThen_ok,Sem.run_pure];rfl),.int _ _⟩
 ·cases h
theorem Jf {ts:Array TypeId} {t:TypeId} {r:List TypeId} (h:ts.toList=t :: r):ts[0]? = some t:=by
 rw [<-Array.getElem?_toList,h];rfl
theorem Re:FE E:=by
 intro ρ M w b ts ty cb vs vs' σ σ' v h hsr hg hv;unfold DC at h;split at h
 ·rename_i t r x hts;obtain ⟨h1,rfl⟩:=CX h;cases hv with | cons _ x' _ _ hx hnil=>cases hnil with | nil =>
  obtain ⟨v',h2,h3⟩:=mC ty h1 (Jf hts) hsr hx;exact ⟨v',w,ρ,M,by simp only [builtin,Sem.run_bind,h2,Result.andThen_ok,Sem.run_pure],.refl hsr,h3⟩
 ·rename_i t r x hts;obtain ⟨h1,rfl⟩:=CX h;cases hv with | cons _ x' _ _ hx hnil=>cases hnil with | nil =>
  obtain ⟨v',h2,h3⟩:=ZP (w:=w) ty h1 (Jf hts) hx;exact ⟨v',w,ρ,M,by simp only [builtin,Sem.run_bind,h2,Result.andThen_ok,Sem.run_pure],.refl hsr,h3⟩
 ·rename_i t u s x hts;cases hv with | cons _ s' _ _ hs hv=>cases hv with | cons _ x' _ _ hx hnil=>cases hnil with | nil =>
  have hts':ts=#[t,u]:=by apply Array.ext';rw [hts]
  subst hts';split at h
  ·rename_i k hu;obtain ⟨v',w',ρ',M',h2,h3,h4⟩:=RI h hu rfl hsr hs hx ty;exact ⟨v',w',ρ',M',by simp only [builtin,Sem.run_bind,h2,Result.andThen_ok,Sem.run_pure],h3,h4⟩
  ·rename_i du hne hu;have hz:false=JZ du:=by cases du<;>first | rfl | exact absurd rfl (hne _)
   obtain ⟨v',w',ρ',M',h2,h3,h4⟩:=RI h hu hz hsr hs hx ty;exact ⟨v',w',ρ',M',by simp only [builtin,Sem.run_bind,h2,Result.andThen_ok,Sem.run_pure],h3,h4⟩
  ·cases h
 ·rename_i t r d x hts;cases hv with | cons _ d' _ _ hd hv=>cases hv with | cons _ x' _ _ hx hnil=>cases hnil with | nil =>
  obtain ⟨v',w',h2,h3,h4⟩:=Za ty h (Jf hts) hsr hd hx;exact ⟨v',w',ρ,M,by simp only [builtin,Sem.run_bind,h2,Result.andThen_ok,Sem.run_pure],h3,h4⟩
 ·rename_i t r m k hts;unfold unit at h;split at h
  ·rename_i σ1 h1;cases h;cases hv with | cons _ m' _ _ hm hv=>cases hv with | cons _ k' _ _ hk hnil=>cases hnil with | nil =>
   obtain ⟨w',h2,h3⟩:=Zv ty h1 (Jf hts) hsr hm hk;exact ⟨undef,w',ρ,M,(by simp only [builtin,Sem.run_bind,h2,Result.andThen_ok,Sem.run_pure];rfl),h3,FC⟩
  ·cases h
 ·rename_i t r x hts;unfold unit at h;split at h
  ·rename_i σ1 h1;cases h;cases hv with | cons _ x' _ _ hx hnil=>cases hnil with | nil =>
   obtain ⟨w',h2,h3⟩:=ZU ty h1 (Jf hts) hsr hx;exact ⟨undef,w',ρ,M,(by simp only [builtin,Sem.run_bind,h2,Result.andThen_ok,Sem.run_pure];rfl),h3,FC⟩
  ·cases h
 ·rename_i t r x hts;obtain ⟨h1,rfl⟩:=CX h;cases hv with | cons _ x' _ _ hx hnil=>cases hnil with | nil =>
  obtain ⟨v',h2,h3⟩:=Zo (w:=w) (ts:=ts) ty h1 hx;exact ⟨v',w,ρ,M,by simp only [builtin,Sem.run_bind,h2,Result.andThen_ok,Sem.run_pure],.refl hsr,h3⟩
 ·rename_i t r p n hts;cases hv with | cons _ p' _ _ hp hv=>cases hv with | cons _ n' _ _ hn hnil=>cases hnil with | nil =>
  obtain ⟨v',w',h2,h3,h4⟩:=uV ty h (Jf hts) hsr hp hn;exact ⟨v',w',ρ,M,by simp only [builtin,Sem.run_bind,h2,Result.andThen_ok,Sem.run_pure],h3,h4⟩
 ·rename_i x r;obtain ⟨h1,rfl⟩:=CX h;cases hv with | cons _ x' _ r' hx hr =>
  obtain ⟨v',h2,h3⟩:=O0 (E:=E) (g:=Builtin.min2) (λ_ _ _ _ _=>nL (w:=w)) h1 hx hr;exact ⟨v',w,ρ,M,by simp only [builtin,Builtin.min_,Sem.run_bind,h2,Result.andThen_ok,Sem.run_pure],.refl hsr,h3⟩
 ·rename_i x r;obtain ⟨h1,rfl⟩:=CX h;cases hv with | cons _ x' _ r' hx hr =>
  obtain ⟨v',h2,h3⟩:=O0 (E:=E) (g:=Builtin.max2) (λ_ _ _ _ _=>nJ (w:=w)) h1 hx hr;exact ⟨v',w,ρ,M,by simp only [builtin,Builtin.max_,Sem.run_bind,h2,Result.andThen_ok,Sem.run_pure],.refl hsr,h3⟩
 ·cases h
theorem PL.zAl {ev:Operand->Option V} {ev':Operand->Value} {ps:Array (Nat×Operand)} {l:List (Nat×V)} (h:EV ρ M ev ev') (hp:D5 ev ps.toList=some l):PL ρ M l (ps.map λ(i,x)=>(i,ev' x)).toList:=by
 have:=Su h hp;simpa using this
theorem WO:FJ E:=by
 intro ρ M w ev ev' o σ σ' v h hsr hg hev
 have pure0: ∀ {s:Sem Value} {v':Value},execOp ev' o=(do pure (.value (<- s)))->s.run E.P w=.ok v' w->VR ρ M v v'->σ'=σ ->
  ∃ v' w' ρ' M',((execOp ev' o).run E.P w=.ok (.value v') w'\/((execOp ev' o).run E.P w=.ok .skip w'/\v'=undef))/\A8 E.P ρ M σ w ρ' M' σ' w'/\VR ρ' M' v v':=by
  intro s v' he hs hv hσ;subst hσ;exact ⟨v',w,ρ,M,.inl (by rw [he];simp only [Sem.run_bind,hs,Result.andThen_ok,Sem.run_pure]),.refl hsr,hv⟩
 have step0: ∀ {s:Sem Value} {v':Value} {w':World} {ρ':Ren} {M':Mem},execOp ev' o=(do pure (.value (<- s)))->s.run E.P w=.ok v' w'->A8 E.P ρ M σ w ρ' M' σ' w'->VR ρ' M' v v' ->
  ∃ v' w' ρ' M',((execOp ev' o).run E.P w=.ok (.value v') w'\/((execOp ev' o).run E.P w=.ok .skip w'/\v'=undef))/\A8 E.P ρ M σ w ρ' M' σ' w'/\VR ρ' M' v v':=by
  intro s v' w' ρ' M' he hs hst hv;exact ⟨v',w',ρ',M',.inl (by rw [he];simp only [Sem.run_bind,hs,Result.andThen_ok,Sem.run_pure]),hst,hv⟩
 have unit0: ∀ {s:Sem Unit} {w':World},execOp ev' o=(do s;pure .skip)->s.run E.P w=.ok () w'->A8 E.P ρ M σ w ρ M σ' w'->v=.tup [] ->
  ∃ v' w' ρ' M',((execOp ev' o).run E.P w=.ok (.value v') w'\/((execOp ev' o).run E.P w=.ok .skip w'/\v'=undef))/\A8 E.P ρ M σ w ρ' M' σ' w'/\VR ρ' M' v v':=by
  intro s w' he hs hst hv;subst hv;exact ⟨undef,w',ρ,M,.inr ⟨by rw [he];simp only [Sem.run_bind,hs,Result.andThen_ok,Sem.run_pure],rfl⟩,hst,FC⟩
 cases ho:o.op<;>rw [ho] at h<;>simp only [Aq] at h
 case move x =>
  obtain ⟨h1,h2⟩:=CX h;exact pure0 (s:=pure (ev' x)) (by simp only [execOp,ho];rfl) rfl (hev _ _ h1) h2
 case assign x =>
  obtain ⟨h1,h2⟩:=CX h;exact pure0 (s:=pure (ev' x)) (by simp only [execOp,ho];rfl) rfl (hev _ _ h1) h2
 case pick c a b =>
  split at h
  ·rename_i hc;obtain ⟨h1,h2⟩:=CX h;have:=hev _ _ hc;generalize hv:ev' c=cv at this;cases this;exact pure0 (s:=pure (ev' a)) (by simp only [execOp,ho,hv,asBool];rfl) rfl (hev _ _ h1) h2
  ·rename_i hc;obtain ⟨h1,h2⟩:=CX h;have:=hev _ _ hc;generalize hv:ev' c=cv at this;cases this;exact pure0 (s:=pure (ev' b)) (by simp only [execOp,ho,hv,asBool];rfl) rfl (hev _ _ h1) h2
  ·cases h
 case alloc t =>
  split at h
  ·rename_i z hz;cases h;obtain ⟨u',w',ρ',h1,h2,h3⟩:=YR hsr hz;exact step0 (by simp only [execOp,ho]) h1 h2 h3
  ·cases h
 case box t x =>
  split at h
  ·rename_i u hu;cases h;obtain ⟨u',w',ρ',h1,h2,h3⟩:=Y7 (P:=E.P) hsr t (hev _ _ hu);exact step0 (by simp only [execOp,ho]) h1 h2 h3
  ·cases h
 case build t ps =>
  split at h
  ·rename_i l hl;obtain ⟨h1,h2⟩:=CX h;obtain ⟨v',h3,h4⟩:=ZC (w:=w) h1 (PL.zAl hev hl);exact pure0 (by simp only [execOp,ho]) h3 h4 h2
  ·cases h
 case buildSlice t n ps =>
  split at h
  ·rename_i l hl;obtain ⟨v',w',ρ',M',h3,h4,h5⟩:=ZB hsr h (PL.zAl hev hl);exact step0 (by simp only [execOp,ho]) h3 h4 h5
  ·cases h
 case load t a =>
  split at h
  ·rename_i p hp;obtain ⟨h1,h2⟩:=CX h;obtain ⟨v',h3,h4⟩:=UE h1 hsr hg (hev _ _ hp);exact pure0 (by simp only [execOp,ho]) h3 h4 h2
  ·cases h
 case store t a x =>
  split at h
  ·rename_i p u hp hu;unfold unit at h;split at h
   ·rename_i σ1 h1;cases h;obtain ⟨w',h3,h4⟩:=uO h1 hsr (hev _ _ hp) (hev _ _ hu);exact unit0 (by simp only [execOp,ho]) h3 h4 rfl
   ·cases h
  ·cases h
 case nilCheck x =>
  split at h
  ·rename_i b ver off hx;cases h;have hr:=hev _ _ hx;have: ∃ a,ev' x=.pointer (some a):=by
    obtain ⟨e,_,⟨_,a,h1⟩ | ⟨_,h1⟩⟩:=hr.ptr_inv
    ·exact ⟨a,h1⟩
    ·exact ⟨_,h1⟩
   obtain ⟨a,ha⟩:=this;exact pure0 (s:=pure (ev' x)) (by simp only [execOp,ho,ha];rfl) rfl hr rfl
  ·rename_i xs i j hx;cases h;have hr:=hev _ _ hx;generalize hv:ev' x=xv at hr;have hr2:=hr;cases hr;exact pure0 (s:=pure _) (by simp only [execOp,ho,hv];rfl) rfl hr2 rfl
  ·rename_i g off hx;cases h;have hr:=hev _ _ hx;generalize hv:ev' x=xv at hr;have hr2:=hr;cases hr;exact pure0 (s:=pure _) (by simp only [execOp,ho,hv];rfl) rfl hr2 rfl
  ·rename_i f c hx;cases h;have hr:=hev _ _ hx;obtain ⟨cap',hv,_⟩:=Lx hr;exact pure0 (s:=pure (ev' x)) (by simp only [execOp,ho,hv];rfl) rfl hr rfl
  ·cases h
 case binOp op t x y c =>
  split at h
  ·rename_i a b ha hb;obtain ⟨h1,h2⟩:=CX h;obtain ⟨v',h3,h4⟩:=Yz x y h1 hsr (hev _ _ ha) (hev _ _ hb);exact pure0 (by simp only [execOp,ho]) h3 h4 h2
  ·cases h
 case unOp op t x =>
  split at h
  ·rename_i u hu;obtain ⟨h1,h2⟩:=CX h;obtain ⟨v',h3,h4⟩:=wP (E:=E) (w:=w) h1 (hev _ _ hu);exact pure0 (by simp only [execOp,ho]) h3 h4 h2
  ·cases h
 case convert s d x =>
  split at h
  ·rename_i u hu;split at h
   ·obtain ⟨v',w',h3,h4,h5⟩:=nI h hsr (hev _ _ hu);exact step0 (by simp only [execOp,ho]) h3 h4 h5
   ·obtain ⟨h1,h2⟩:=CX h;subst h2;obtain ⟨v',w',M',h3,h4,h5⟩:=ZZ h1 hsr (hev _ _ hu);exact step0 (by simp only [execOp,ho]) h3 h4 h5
  ·cases h
 case makeInterface t x =>
  split at h
  ·rename_i u d hu ht;split at h
   ·cases h
   ·rename_i hne;cases h;refine pure0 (s:=Instr.makeInterface t (ev' x)) (v':=.iface t (ev' x)) (by simp only [execOp,ho]) ?_ (.ifc t _ _ (hev _ _ hu)) rfl;simp only [Instr.makeInterface,Sem.run_bind,BC ht,Result.andThen_ok];cases d<;>first | rfl | exact absurd rfl (hne _)
  ·cases h
 case makeFunc f first cap =>
  split at h
  ·rename_i g;split at h
   ·rename_i hf;have hf:first=#[]:=by simpa using hf
    subst hf;split at h
    ·rename_i us hus;cases h;have:=KR hev hus;refine pure0 (s:=Instr.makeFunc (.func g) ((#[]:Array Operand).map ev') (cap.map ev')) (v':=.func (.func g) #[] (cap.map ev')) (by simp only [execOp,ho]) (by simp [Instr.makeFunc]) ?_ rfl;have h2:=VR.fn (ρ:=ρ) (M:=M) g us _ this;have:(cap.toList.map ev').toArray=cap.map ev':=by apply Array.ext';simp
     rw [this] at h2;exact h2
    ·cases h
   ·cases h
  ·cases h
 case makeMap t r =>
  have new:σ'=σ.new (.map [] 0)->v=.map σ.n->((Instr.makeMap t (r.map ev')).run E.P w=.ok (.map (some w.heap.size)) (w.alloc (.map #[] 0)))->∃ v' w' ρ' M',((execOp ev' o).run E.P w=.ok (.value v') w'\/((execOp ev' o).run E.P w=.ok .skip w'/\v'=undef))/\A8 E.P ρ M σ w ρ' M' σ' w'/\VR ρ' M' v v':=by
   intro h1 h2 h3;subst h1;subst h2;refine step0 (by simp only [execOp,ho]) h3 (M6 hsr (o':=.map #[] 0) (e:=⟨w.heap.size,0,0,0,0⟩) rfl rfl rfl rfl rfl ⟨rfl,#[],Ig w _,.nil⟩) (.map _ _ (Ren.zAw _ _ _) rfl)
  split at h
  ·rename_i a b ht hr;cases h;have hr:r=none:=by
    cases r with
    | none=>rfl
    | some r=>unfold Ct at hr;simp only at hr;split at hr<;>cases hr
   subst hr;exact new rfl rfl (by simp only [Instr.makeMap,Option.map_none,Sem.run_bind,Mq,Result.andThen_ok,Sem.run_pure])
  ·rename_i a b k n ht hr;cases h;rcases Ul hev hr with ⟨_,hx⟩ | ⟨x,u,hx,hu,hvr⟩
   ·cases hx
   ·cases hu;subst hx;generalize hv:ev' x=xv at hvr;cases hvr;exact new rfl rfl (by simp only [Instr.makeMap,Option.map_some,hv,asInt,asIntOf,Sem.run_bind,BC ht,Mq,Result.andThen_ok,Sem.run_pure])
  ·cases h
 case makeSlice t l c =>
  split at h
  ·rename_i a b ha hb;obtain ⟨v',w',ρ',M',h3,h4,h5⟩:=nE hsr h (hev _ _ ha) (hev _ _ hb);exact step0 (by simp only [execOp,ho]) h3 h4 h5
  ·cases h
 case slice t x lo hi mx =>
  split at h
  ·rename_i x1 l1 h1 m1 hx hl hh hm;obtain ⟨h2,h3⟩:=CX h;obtain ⟨v',h4,h5⟩:=sZ h2 hsr (hev _ _ hx) (Po hev hl) (Po hev hh) (Po hev hm);exact pure0 (by simp only [execOp,ho]) h4 h5 h3
  ·cases h
 case fieldAddr s x f =>
  split at h
  ·rename_i p hp;obtain ⟨h1,h2⟩:=CX h;obtain ⟨v',h3,h4⟩:=aW (w:=w) h1 (hev _ _ hp);exact pure0 (by simp only [execOp,ho]) h3 h4 h2
  ·cases h
 case field s x f =>
  split at h
  ·rename_i p hp;obtain ⟨h1,h2⟩:=CX h;obtain ⟨v',h3,h4⟩:=aY (w:=w) h1 (hev _ _ hp);exact pure0 (by simp only [execOp,ho]) h3 h4 h2
  ·cases h
 case indexAddr t x i =>
  split at h
  ·rename_i a b ha hb;obtain ⟨h1,h2⟩:=CX h;obtain ⟨v',h3,h4⟩:=d9 (w:=w) h1 (hev _ _ ha) (hev _ _ hb);exact pure0 (by simp only [execOp,ho]) h3 h4 h2
  ·cases h
 case index t x i =>
  split at h
  ·rename_i a b ha hb;obtain ⟨h1,h2⟩:=CX h;obtain ⟨v',h3,h4⟩:=eD (w:=w) h1 (hev _ _ ha) (hev _ _ hb);exact pure0 (by simp only [execOp,ho]) h3 h4 h2
  ·cases h
 case lookup t m k ok =>
  split at h
  ·rename_i a b ha hb;obtain ⟨h1,h2⟩:=CX h;obtain ⟨v',h3,h4⟩:=mU h1 hsr (hev _ _ ha) (hev _ _ hb);exact pure0 (by simp only [execOp,ho]) h3 h4 h2
  ·cases h
 case mapUpdate t m k x =>
  split at h
  ·rename_i a b c ha hb hc;unfold unit at h;split at h
   ·rename_i σ1 h1;cases h;obtain ⟨w',h3,h4⟩:=UJ h1 hsr (hev _ _ ha) (hev _ _ hb) (hev _ _ hc);exact unit0 (by simp only [execOp,ho]) h3 h4 rfl
   ·cases h
  ·cases h
 case insert t m k x =>
  split at h
  ·rename_i a b c ha hb hc;unfold unit at h;split at h
   ·rename_i σ1 h1;cases h;obtain ⟨w',h3,h4⟩:=UJ h1 hsr (hev _ _ ha) (hev _ _ hb) (hev _ _ hc);exact unit0 (by simp only [execOp,ho]) h3 h4 rfl
   ·cases h
  ·cases h
 case mapEntry t m k =>
  split at h
  ·rename_i a b ha hb;obtain ⟨v',w',h3,h4,h5⟩:=nG h hsr (hev _ _ ha) (hev _ _ hb);exact step0 (by simp only [execOp,ho]) h3 h4 h5
  ·cases h
 case entryStore t m s x =>
  split at h
  ·rename_i a b c ha hb hc;unfold unit at h;split at h
   ·rename_i σ1 h1;cases h;obtain ⟨w',h3,h4⟩:=aI (t:=t) h1 hsr (hev _ _ ha) (hev _ _ hb) (hev _ _ hc);exact unit0 (by simp only [execOp,ho]) h3 h4 rfl
   ·cases h
  ·cases h
 case extract t i =>
  split at h
  ·rename_i vs hv;obtain ⟨h1,h2⟩:=CX h;have hr:=hev _ _ hv;generalize hx:ev' t=tv at hr;cases hr with
   | tup _ cs' hvr =>
    obtain ⟨v',h3,h4⟩:=hvr.get h1;refine pure0 (s:=Instr.extract (ev' t) i) (v':=v') (by simp only [execOp,ho]) ?_ h4 h2;rw [hx];have:cs'.toArray[i]? = some v':=by simpa using h3
    simp only [Instr.extract,this,Sem.run_pure]
  ·cases h
 all_goals cases h
end
end SS
namespace SS
open Go
def OA (E:Env) (fn:Func):Bool :=
 match fn.body with
 | some c=>EF E c&&!(fn.name== "runtime.NumGoroutine")
 | none=>true
end SS
namespace Go.ChangeShapes
open Go.WideShapes
section
variable {H:Type} {enc:TypeId×Value->H} {P:Program}
theorem lG {W W':World} {may:MemPlace->Prop} (hos:W'.os=W.os) (hout:W'.output=W.output) (hk: ∀ i,i<W.heap.size->W'.heap[i]? = W.heap[i]?):W.keptBut W' may:=by
 refine ⟨hos,hout,λi hi=>?_⟩;rw [hk i hi]
 split
 ·rename_i h1 h2;rw [h1] at h2;cases h2;exact ⟨rfl,rfl,rfl,λ_ _=>rfl⟩
 ·rename_i h1 h2;rw [h1] at h2;cases h2;exact .inr ⟨rfl,rfl⟩
 ·rfl
theorem p8 {f:Func} {s:ChangeSpec} {apart fresh handsOn again:Bool} {W W':World} {args:Array Value} {v:Value} {ds gs:List (DataW H)} {before pa pv:List MemPlace}
 (hW:DataW.Whole enc P f.params.toList s.vars apart W args.toList ds gs before)
 (hres: ∀ (b:Nat) (sp:Nat->Bool) (hd:Bool),DataW.TrodAll enc P W' b sp hd f.resultTypes.toList (v.resultList f.resultTypes.size) (s.fn H (ds++gs)).results [])
 (hargs: ∀ sp:Nat->Bool,(∀ p∈before,sp p.block=true)->DataW.TrodAll enc P W' 0 sp true f.params.toList args.toList (s.fn H (ds++gs)).args pa)
 (hvars: ∀ sp:Nat->Bool,(∀ p∈before,sp p.block=true)->DataW.TrodVars enc P W' sp s.vars (s.fn H (ds++gs)).vars pv)
 (hps:before=pa++pv) (hos:W'.os=W.os) (hout:W'.output=W.output) (hk: ∀ i,i<W.heap.size->W'.heap[i]? = W.heap[i]?)
 (hok: ∀ (j:Nat) (t:TypeId) (r:Value),f.resultTypes[j]? = some t->(v.resultList f.resultTypes.size)[j]? = some r->Value.okWide P W' .any 0 t r) :
 s.post enc P f apart fresh handsOn again W args v W':=by
 have hold: ∀ p∈before,(λb=>decide (b<W.heap.size)) p.block=true:=λp hp=>by simpa using hW.lt p hp
 have hlt:=hW.lt;refine ⟨ds,gs,before,[],pa,pv,hW,hres _ _ _,hargs _ hold,hvars _ hold,World.keptBut_mono (λp hp=>⟨hp,?_⟩) (lG (may:=(·∈before)) hos hout hk),λ_=>?_⟩
 ·rw [hps,List.mem_append] at hp;exact Or.inr hp
 ·obtain ⟨_,_,_,_,_,hz,hn⟩:=hW;refine ⟨hok,_,_,([]++pa)++pv,⟨[]++pa,pv,trodAll_append (hargs _ (λ_ _=>rfl)) (hres _ _ _),hvars _ (λ_ _=>rfl),rfl,?_,?_⟩,?_⟩
  ·intro b off hp;have hm:MemPlace.cell b off∈before:=by rw [hps];simpa using hp
   have hb:b<W.heap.size:=hlt _ hm;have h1:=hz b off hm;unfold World.frozen? at h1 ⊢;simp only at h1 ⊢;rw [hk b hb];exact h1
  ·intro ha;have:=hn ha;rw [hps] at this;simpa using this
  ·intro p hp _;rw [hps];simpa using hp
end
end Go.ChangeShapes
