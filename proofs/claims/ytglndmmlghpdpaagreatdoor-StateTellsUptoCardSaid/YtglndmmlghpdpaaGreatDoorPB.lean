/-
  part 2 of the proof; no condition.
-/
import Derived.Test.YtglndmmlghpdpaaGreatDoorPA
import Derived.Laws.Cells
import Derived.Below
namespace SS
open Go
structure Ent where
 x:Nat
 s:Nat
 ver:Nat
 size:Nat
 sz:Nat
abbrev Ren:=Nat->Option Ent
abbrev Mem:=Nat->Option Obj
mutual
inductive VR (ρ:Ren) (M:Mem):V->Value->Prop
 | bool (b:Bool):VR ρ M (.bool b) (.bool b)
 | int (k:IntKind) (n:Int):VR ρ M (.int k n) (.int k n)
 | str (s:List UInt8):VR ρ M (.str s) (.string ⟨s.toArray⟩)
 | nilS:VR ρ M .nilS (.slice none 0 0)
 | emp (a:Option Addr) (cap:Nat):(a=none->cap=0)->VR ρ M .emp (.slice a 0 cap)
 | lst0 (full:Bool) (a:Addr) (cap:Nat):(full=true->cap=0)->VR ρ M (.lst [] full) (.slice (some a) 0 cap)
 | lst (x:V) (xs:List V) (full:Bool) (b o cap:Nat) (cs:Array Value) (t:TypeId) (fr:Nat×Nat) :
  M b=some (.cells cs t fr)->Bz ρ M x.cells.length (x :: xs) (cs.toList.drop o)->xs.length+1<=cap->(full=true->cap=xs.length+1) ->
  VR ρ M (.lst (x :: xs) full) (.slice (some ⟨b,o,none⟩) (xs.length+1) cap)
 | refOld (b ver off len:Nat) (cap:Option Nat) (e:Ent) (a:Addr) (cap':Nat):ρ b=some e->ver<e.ver->len<=cap'->(∀ c,cap=some c->cap'=c)->VR ρ M (.ref b ver off len cap) (.slice (some a) len cap')
 | refCap (b off len c:Nat) (e:Ent):ρ b=some e->len<=c->VR ρ M (.ref b e.ver off len (some c)) (.slice (some ⟨e.x,e.s+off,none⟩) len c)
 | ref (b off len cap:Nat) (e:Ent):ρ b=some e->len<=cap->e.s+off+cap*e.sz=e.size->VR ρ M (.ref b e.ver off len none) (.slice (some ⟨e.x,e.s+off,none⟩) len cap)
 | refEnd (b off:Nat) (a:Addr) (e:Ent):ρ b=some e->e.size<=e.s+off->VR ρ M (.ref b e.ver off 0 none) (.slice (some a) 0 0)
 | ptr0:VR ρ M .ptr0 (.pointer none)
 | ptrOld (b ver off:Nat) (e:Ent) (a:Addr):ρ b=some e->ver<e.ver->VR ρ M (.ptr b ver off) (.pointer (some a))
 | ptr (b off:Nat) (e:Ent):ρ b=some e->VR ρ M (.ptr b e.ver off) (.pointer (some ⟨e.x,e.s+off,none⟩))
 | eptr (xs:List V) (i j sz b o:Nat) (cs:Array Value) (t:TypeId) (fr:Nat×Nat) :
  M b=some (.cells cs t fr)->Bz ρ M sz xs (cs.toList.drop o)->i<xs.length->VR ρ M (.eptr xs i j) (.pointer (some ⟨b,o+i*sz+j,none⟩))
 | gptr (g off:Nat):VR ρ M (.gptr g off) (.pointer (some ⟨g,off,none⟩))
 | map0:VR ρ M .map0 (.map none)
 | map (b:Nat) (e:Ent):ρ b=some e->e.sz=0->VR ρ M (.map b) (.map (some e.x))
 | fn0:VR ρ M .fn0 .nilFunc
 | fn (f:FuncId) (cap:List V) (cap':List Value):VRL ρ M cap cap'->VR ρ M (.fn f cap) (.func (.func f) #[] cap'.toArray)
 | if0:VR ρ M .if0 .nilIface
 | ifc (t:TypeId) (v:V) (v':Value):VR ρ M v v'->VR ρ M (.ifc t v) (.iface t v')
 | agg (cs:List V) (cs':List Value):VRL ρ M cs cs'->VR ρ M (.agg cs) (.agg cs'.toArray)
 | tup (cs:List V) (cs':List Value):VRL ρ M cs cs'->VR ρ M (.tup cs) (.tuple cs'.toArray)
 | opq (v':Value):v'.oneCell'=true->VR ρ M .opq v'
inductive VRL (ρ:Ren) (M:Mem):List V->List Value->Prop
 | nil:VRL ρ M [] []
 | cons (v:V) (v':Value) (vs:List V) (vs':List Value):VR ρ M v v'->VRL ρ M vs vs'->VRL ρ M (v :: vs) (v' :: vs')
inductive Bz (ρ:Ren) (M:Mem):Nat->List V->List Value->Prop
 | nil (sz:Nat) (l:List Value):Bz ρ M sz [] l
 | cons (sz:Nat) (x:V) (xs:List V) (cs l:List Value):VRL ρ M x.cells cs->x.cells.length=sz->Bz ρ M sz xs l->Bz ρ M sz (x :: xs) (cs++l)
end
section
variable {ρ:Ren} {M:Mem}
theorem VRL.length {vs:List V} {vs':List Value} (h:VRL ρ M vs vs'):vs.length=vs'.length:=by
 induction vs generalizing vs' with
 | nil=>cases h;rfl
 | cons v vs ih=>cases h with | cons _ _ _ _ _ h2=>simp [ih h2]
theorem VRL.get {vs:List V} {vs':List Value} (h:VRL ρ M vs vs') {i:Nat} {v:V} (hv:vs[i]? = some v): ∃ v',vs'[i]? = some v'/\VR ρ M v v':=by
 induction vs generalizing vs' i with
 | nil=>simp at hv
 | cons a vs ih =>
  cases h with
  | cons _ v' _ vs' h1 h2 =>
   cases i with
   | zero=>simp at hv;subst hv;exact ⟨v',rfl,h1⟩
   | succ i=>simp at hv;obtain ⟨w,hw,hr⟩:=ih h2 hv;exact ⟨w,by simpa using hw,hr⟩
theorem VRL.append {a b:List V} {a' b':List Value} (h1:VRL ρ M a a') (h2:VRL ρ M b b'):VRL ρ M (a++b) (a'++b'):=by
 induction a generalizing a' with
 | nil=>cases h1;exact h2
 | cons v a ih=>cases h1 with | cons _ _ _ _ x y=>exact .cons _ _ _ _ x (ih y)
theorem VRL.take {a:List V} {a':List Value} (h:VRL ρ M a a') (n:Nat):VRL ρ M (a.take n) (a'.take n):=by
 induction a generalizing a' n with
 | nil=>cases h;simp;exact .nil
 | cons v a ih =>
  cases h with
  | cons _ _ _ _ x y=>cases n with
   | zero=>simp;exact .nil
   | succ n=>simp;exact .cons _ _ _ _ x (ih y n)
theorem VRL.drop {a:List V} {a':List Value} (h:VRL ρ M a a') (n:Nat):VRL ρ M (a.drop n) (a'.drop n):=by
 induction a generalizing a' n with
 | nil=>cases h;simp;exact .nil
 | cons v a ih =>
  cases h with
  | cons _ _ _ _ x y=>cases n with
   | zero=>simp;exact .cons _ _ _ _ x y
   | succ n=>simp;exact ih y n
theorem VRL.of_get {a:List V} {a':List Value} (hl:a.length=a'.length) (h: ∀ (i:Nat) (v:V),a[i]? = some v->∃ v',a'[i]? = some v'/\VR ρ M v v'):VRL ρ M a a':=by
 induction a generalizing a' with
 | nil=>cases a'<;>simp_all;exact .nil
 | cons v a ih =>
  cases a' with
  | nil=>simp at hl
  | cons w a' =>
   obtain ⟨w',hw,hr⟩:=h 0 v rfl;simp at hw;subst hw;exact .cons _ _ _ _ hr (ih (by simpa using hl) λi u hu=>by obtain ⟨z,hz,hzr⟩:=h (i+1) u (by simpa using hu);exact ⟨z,by simpa using hz,hzr⟩)
theorem VR.one {v:V} {v':Value} (h:VR ρ M v v'):v.one=v'.oneCell':=by
 cases h<;>simp_all [V.one,Value.oneCell']
theorem VR.cells {v:V} {v':Value} (h:VR ρ M v v'):VRL ρ M v.cells v'.cells.toList:=by
 have h0:=h;cases h with
 | agg cs cs' h=>simpa [V.cells,Value.cells] using h
 | opq v' h =>
  have:v'.cells=#[v']:=by cases v'<;>simp_all [Value.cells,Value.oneCell']
  rw [this];exact .cons _ _ _ _ (.opq _ h) .nil
 | _=>exact .cons _ _ _ _ h0 .nil
end
structure CT (ρ:Ren) (M:Mem) (ρ':Ren) (M':Mem):Prop where
 ren: ∀ b e,ρ b=some e->∃ e',ρ' b=some e'/\(e'=e\/(e.ver<e'.ver/\e.sz≠0))
 mem: ∀ x o,M x=some o->M' x=some o
theorem CT.refl (ρ:Ren) (M:Mem):CT ρ M ρ M:=⟨λ_ e h=>⟨e,h,.inl rfl⟩,λ_ _ h=>h⟩
theorem CT.trans {ρ ρ' ρ'':Ren} {M M' M'':Mem} (h:CT ρ M ρ' M') (k:CT ρ' M' ρ'' M''):CT ρ M ρ'' M'':=by
 refine ⟨λb e he=>?_,λx o ho=>k.mem _ _ (h.mem _ _ ho)⟩;obtain ⟨e',he',h1⟩:=h.ren b e he;obtain ⟨e'',he'',h2⟩:=k.ren b e' he';refine ⟨e'',he'',?_⟩;rcases h1 with rfl | h1
 ·exact h2
 ·rcases h2 with rfl | h2
  ·exact .inr h1
  ·exact .inr ⟨Nat.lt_trans h1.1 h2.1,h1.2⟩
section
variable {ρ ρ':Ren} {M M':Mem}
mutual
theorem VR.mono (g:CT ρ M ρ' M') {v:V} {v':Value} (h:VR ρ M v v'):VR ρ' M' v v':=by
 match h with
 | .bool b=>exact .bool b
 | .int k n=>exact .int k n
 | .str s=>exact .str s
 | .nilS=>exact .nilS
 | .emp a c h=>exact .emp a c h
 | .lst0 f a c h=>exact .lst0 f a c h
 | .lst x xs f b o c cs t fr h1 h2 h3 h4=>exact .lst x xs f b o c cs t fr (g.mem _ _ h1) (Bz.mono g h2) h3 h4
 | .refOld b ver off len cap e a c' h1 h2 h3 h4 =>
  obtain ⟨e',he',hv⟩:=g.ren _ _ h1;exact .refOld b ver off len cap e' a c' he' (by rcases hv with rfl | hv;exact h2;omega) h3 h4
 | .refCap b off len c e h1 h2 =>
  obtain ⟨e',he',hv⟩:=g.ren _ _ h1;rcases hv with rfl | hv
  ·exact .refCap b off len c _ he' h2
  ·exact .refOld b _ off len _ e' _ _ he' hv.1 h2 (λ_ h=>by cases h;rfl)
 | .ref b off len cap e h1 h2 h3 =>
  obtain ⟨e',he',hv⟩:=g.ren _ _ h1;rcases hv with rfl | hv
  ·exact .ref b off len cap _ he' h2 h3
  ·exact .refOld b _ off len _ e' _ _ he' hv.1 h2 (λ_ h=>by cases h)
 | .refEnd b off a e h1 h2 =>
  obtain ⟨e',he',hv⟩:=g.ren _ _ h1;rcases hv with rfl | hv
  ·exact .refEnd b off a _ he' h2
  ·exact .refOld b _ off 0 _ e' _ _ he' hv.1 (Nat.le_refl _) (λ_ h=>by cases h)
 | .ptr0=>exact .ptr0
 | .ptrOld b ver off e a h1 h2 =>
  obtain ⟨e',he',hv⟩:=g.ren _ _ h1;exact .ptrOld b ver off e' a he' (by rcases hv with rfl | hv;exact h2;omega)
 | .ptr b off e h1 =>
  obtain ⟨e',he',hv⟩:=g.ren _ _ h1;rcases hv with rfl | hv
  ·exact .ptr b off _ he'
  ·exact .ptrOld b _ off e' _ he' hv.1
 | .eptr xs i j sz b o cs t fr h1 h2 h3=>exact .eptr xs i j sz b o cs t fr (g.mem _ _ h1) (Bz.mono g h2) h3
 | .gptr x o=>exact .gptr x o
 | .map0=>exact .map0
 | .map b e h1 h2 =>
  obtain ⟨e',he',hv⟩:=g.ren _ _ h1;rcases hv with rfl | hv
  ·exact .map b _ he' h2
  ·exact absurd h2 hv.2
 | .fn0=>exact .fn0
 | .fn f c c' h=>exact .fn f c c' (VRL.mono g h)
 | .if0=>exact .if0
 | .ifc t v v' h=>exact .ifc t v v' (VR.mono g h)
 | .agg c c' h=>exact .agg c c' (VRL.mono g h)
 | .tup c c' h=>exact .tup c c' (VRL.mono g h)
 | .opq v h=>exact .opq v h
theorem VRL.mono (g:CT ρ M ρ' M') {v:List V} {v':List Value} (h:VRL ρ M v v'):VRL ρ' M' v v':=by
 match h with
 | .nil=>exact .nil
 | .cons v v' vs vs' h1 h2=>exact .cons v v' vs vs' (VR.mono g h1) (VRL.mono g h2)
theorem Bz.mono (g:CT ρ M ρ' M') {sz:Nat} {v:List V} {v':List Value} (h:Bz ρ M sz v v'):Bz ρ' M' sz v v':=by
 match h with
 | .nil sz l=>exact .nil sz l
 | .cons sz x xs cs l h1 h2 h3=>exact .cons sz x xs cs l (VRL.mono g h1) h2 (Bz.mono g h3)
end
end
section
variable {ρ ρ':Ren} {M M':Mem} {n:Nat}
mutual
theorem VR.under (hr: ∀ b e,b<n->ρ b=some e->ρ' b=some e) (hm: ∀ x o,M x=some o->M' x=some o) {v:V} {v':Value} (h:VR ρ M v v') (hu:v.under n=true):VR ρ' M' v v':=by
 match h with
 | .bool b=>exact .bool b
 | .int k n=>exact .int k n
 | .str s=>exact .str s
 | .nilS=>exact .nilS
 | .emp a c h=>exact .emp a c h
 | .lst0 f a c h=>exact .lst0 f a c h
 | .lst x xs f b o c cs t fr h1 h2 h3 h4=>exact .lst x xs f b o c cs t fr (hm _ _ h1) (Bz.under hr hm h2 (by simpa [V.under] using hu)) h3 h4
 | .refOld b ver off len cap e a c' h1 h2 h3 h4=>exact .refOld b ver off len cap e a c' (hr _ _ (by simpa [V.under,Nat.blt_eq] using hu) h1) h2 h3 h4
 | .refCap b off len c e h1 h2=>exact .refCap b off len c e (hr _ _ (by simpa [V.under,Nat.blt_eq] using hu) h1) h2
 | .ref b off len cap e h1 h2 h3=>exact .ref b off len cap e (hr _ _ (by simpa [V.under,Nat.blt_eq] using hu) h1) h2 h3
 | .refEnd b off a e h1 h2=>exact .refEnd b off a e (hr _ _ (by simpa [V.under,Nat.blt_eq] using hu) h1) h2
 | .ptr0=>exact .ptr0
 | .ptrOld b ver off e a h1 h2=>exact .ptrOld b ver off e a (hr _ _ (by simpa [V.under,Nat.blt_eq] using hu) h1) h2
 | .ptr b off e h1=>exact .ptr b off e (hr _ _ (by simpa [V.under,Nat.blt_eq] using hu) h1)
 | .eptr xs i j sz b o cs t fr h1 h2 h3=>exact .eptr xs i j sz b o cs t fr (hm _ _ h1) (Bz.under hr hm h2 (by simpa [V.under] using hu)) h3
 | .gptr x o=>exact .gptr x o
 | .map0=>exact .map0
 | .map b e h1 h2=>exact .map b e (hr _ _ (by simpa [V.under,Nat.blt_eq] using hu) h1) h2
 | .fn0=>exact .fn0
 | .fn f c c' h=>exact .fn f c c' (VRL.under hr hm h (by simpa [V.under] using hu))
 | .if0=>exact .if0
 | .ifc t v v' h=>exact .ifc t v v' (VR.under hr hm h (by simpa [V.under] using hu))
 | .agg c c' h=>exact .agg c c' (VRL.under hr hm h (by simpa [V.under] using hu))
 | .tup c c' h=>exact .tup c c' (VRL.under hr hm h (by simpa [V.under] using hu))
 | .opq v h=>exact .opq v h
theorem VRL.under (hr: ∀ b e,b<n->ρ b=some e->ρ' b=some e) (hm: ∀ x o,M x=some o->M' x=some o) {v:List V} {v':List Value} (h:VRL ρ M v v') (hu:V.under.unders n v=true):VRL ρ' M' v v':=by
 match h with
 | .nil=>exact .nil
 | .cons v v' vs vs' h1 h2 =>
  simp only [V.under.unders,Bool.and_eq_true] at hu;exact .cons v v' vs vs' (VR.under hr hm h1 hu.1) (VRL.under hr hm h2 hu.2)
theorem Bz.under (hr: ∀ b e,b<n->ρ b=some e->ρ' b=some e) (hm: ∀ x o,M x=some o->M' x=some o) {sz:Nat} {v:List V} {v':List Value} (h:Bz ρ M sz v v') (hu:V.under.unders n v=true):Bz ρ' M' sz v v':=by
 match h with
 | .nil sz l=>exact .nil sz l
 | .cons sz x xs cs l h1 h2 h3 =>
  simp only [V.under.unders,Bool.and_eq_true] at hu;have hc:V.under.unders n x.cells=true:=by
   cases x<;>simp_all [V.cells,V.under,V.under.unders]
  exact .cons sz x xs cs l (VRL.under hr hm h1 hc) h2 (Bz.under hr hm h3 hu.2)
end
end
mutual
theorem Jc: ∀ (v:V),v.kind<=1->v.under 0=true
 | .bool _,_ | .int _ _,_ | .str _,_ | .nilS,_ | .emp,_ | .ptr0,_ | .map0,_ | .fn0,_ | .if0,_ | .opq,_=>rfl
 | .lst [] _,_=>rfl
 | .lst (x :: xs) f,h=>by
  simp only [V.kind] at h;have h1:x.kind<=1:=by omega
  have h2:V.kind.kinds xs<=1:=by omega
  simp [V.under,V.under.unders,Jc x h1,MH xs h2]
 | .ref ..,h=>by simp [V.kind] at h
 | .agg cs,h=>by simpa [V.under] using MH cs (by simpa [V.kind] using h)
 | .tup cs,h=>by simpa [V.under] using MH cs (by simpa [V.kind] using h)
 | .ifc t v,h=>by simpa [V.under] using Jc v (by simpa [V.kind] using h)
 | .ptr ..,h=>by simp [V.kind] at h
 | .eptr ..,h=>by simp [V.kind] at h
 | .gptr ..,h=>by simp [V.kind] at h
 | .map _,h=>by simp [V.kind] at h
 | .fn ..,h=>by simp [V.kind] at h
theorem MH: ∀ (vs:List V),V.kind.kinds vs<=1->V.under.unders 0 vs=true
 | [],_=>rfl
 | x :: xs,h=>by
  simp only [V.kind.kinds] at h;simp [V.under.unders,Jc x (by omega),MH xs (by omega)]
end
mutual
theorem Mr {ρ ρ':Ren} {M M':Mem} {v:V} {v':Value} (h:VR ρ M v v') (hs:v.scal=true):VR ρ' M' v v':=by
 match h with
 | .bool b=>exact .bool b
 | .int k n=>exact .int k n
 | .str s=>exact .str s
 | .opq v h=>exact .opq v h
 | .if0=>exact .if0
 | .ifc t v v' h=>exact .ifc t v v' (Mr h (by simpa [V.scal] using hs))
 | .agg c c' h=>exact .agg c c' (QA h (by simpa [V.scal] using hs))
 | .tup c c' h=>exact .tup c c' (QA h (by simpa [V.scal] using hs))
 | .nilS | .emp .. | .lst0 .. | .lst .. | .refOld .. | .refCap .. | .ref .. | .refEnd .. | .ptr0 | .ptrOld .. | .ptr .. | .eptr .. | .gptr .. | .map0 | .map .. | .fn0 | .fn ..=>simp [V.scal] at hs
theorem QA {ρ ρ':Ren} {M M':Mem} {v:List V} {v':List Value} (h:VRL ρ M v v') (hs:V.scal.scals v=true):VRL ρ' M' v v':=by
 match h with
 | .nil=>exact .nil
 | .cons v v' vs vs' h1 h2 =>
  simp only [V.scal.scals,Bool.and_eq_true] at hs;exact .cons v v' vs vs' (Mr h1 hs.1) (QA h2 hs.2)
end
section
variable {ρ:Ren} {M:Mem}
theorem VR.ptr_inv {b ver off:Nat} {v':Value} (h:VR ρ M (.ptr b ver off) v'): ∃ e,ρ b=some e/\((ver<e.ver/\∃ a,v'=.pointer (some a))\/(ver=e.ver/\v'=.pointer (some ⟨e.x,e.s+off,none⟩))):=by
 cases h with
 | ptrOld _ _ _ e a h1 h2=>exact ⟨e,h1,.inl ⟨h2,a,rfl⟩⟩
 | ptr _ _ e h1=>exact ⟨e,h1,.inr ⟨rfl,rfl⟩⟩
theorem VR.map_inv {b:Nat} {v':Value} (h:VR ρ M (.map b) v'): ∃ e,ρ b=some e/\e.sz=0/\v'=.map (some e.x):=by
 cases h with
 | map _ e h1 h2=>exact ⟨e,h1,h2,rfl⟩
theorem VR.ref_inv {b ver off len:Nat} {cap:Option Nat} {v':Value} (h:VR ρ M (.ref b ver off len cap) v'): ∃ e,ρ b=some e /\
 ((ver<e.ver/\∃ a cap',v'=.slice (some a) len cap'/\len<=cap'/\∀ c,cap=some c->cap'=c) \/
  (ver=e.ver/\∃ c,cap=some c/\len<=c/\v'=.slice (some ⟨e.x,e.s+off,none⟩) len c) \/
  (ver=e.ver/\cap=none/\∃ cap',len<=cap'/\e.s+off+cap'*e.sz=e.size/\v'=.slice (some ⟨e.x,e.s+off,none⟩) len cap') \/
  (ver=e.ver/\cap=none/\len=0/\e.size<=e.s+off/\∃ a,v'=.slice (some a) 0 0)):=by
 cases h with
 | refOld _ _ _ _ _ e a c' h1 h2 h3 h4=>exact ⟨e,h1,.inl ⟨h2,a,c',rfl,h3,h4⟩⟩
 | refCap _ _ _ c e h1 h2=>exact ⟨e,h1,.inr (.inl ⟨rfl,c,rfl,h2,rfl⟩)⟩
 | ref _ _ _ cap e h1 h2 h3=>exact ⟨e,h1,.inr (.inr (.inl ⟨rfl,rfl,cap,h2,h3,rfl⟩))⟩
 | refEnd _ _ a e h1 h2=>exact ⟨e,h1,.inr (.inr (.inr ⟨rfl,rfl,rfl,h2,a,rfl⟩))⟩
end
inductive MRL (ρ:Ren) (M:Mem):List (V×V×Nat)->List MapEntry->Prop
 | nil:MRL ρ M [] []
 | cons (k v:V) (born:Nat) (e:MapEntry) (l:List (V×V×Nat)) (l':List MapEntry):VR ρ M k e.key->VR ρ M v e.val->e.born=born->MRL ρ M l l'->MRL ρ M ((k,v,born) :: l) (e :: l')
theorem MRL.mono {ρ ρ':Ren} {M M':Mem} (g:CT ρ M ρ' M') {l:List (V×V×Nat)} {l':List MapEntry} (h:MRL ρ M l l'):MRL ρ' M' l l':=by
 induction h with
 | nil=>exact .nil
 | cons k v born e l l' h1 h2 h3 _ ih=>exact .cons k v born e l l' (h1.mono g) (h2.mono g) h3 ih
def Off (fr:Nat×Nat) (n:Nat):Prop:=fr.1=fr.2\/n<=fr.1
def KE (fr:Nat×Nat) (n sz:Nat):Prop:=Off fr n/\(sz<=1\/fr.1=fr.2)
theorem Off.not {fr:Nat×Nat} {n:Nat} (h:Off fr n): ∀ j,j<n->¬(fr.1<=j/\j<fr.2):=λj hj hh=>by
 rcases h with h | h<;>omega
theorem KE.not {fr:Nat×Nat} {n sz:Nat} (h:KE fr n sz): ∀ j,j<n->¬(fr.1<=j/\j<fr.2):=h.1.not
theorem Kk {n sz:Nat}: KE (0,0) n sz:=⟨.inl rfl,.inr rfl⟩
def Ff (P:Program) (ρ:Ren) (M:Mem) (w:World) (e:Ent):Option AO->Prop
 | some (.blk cs ty ver fz)=>ver=e.ver/\(ver=0->e.s=0)/\e.sz=P.cellsOf ty/\∃ cs' fr,w.heap[e.x]? = some (.cells cs' ty fr)/\cs'.size=e.size/\e.s+cs.length<=e.size /\
  VRL ρ M cs ((cs'.toList.drop e.s).take cs.length)/\(fz=false->KE fr e.size e.sz)
 | some (.map es clock)=>e.sz=0/\∃ es',w.heap[e.x]? = some (.map es' clock)/\MRL ρ M es es'.toList
 | none=>False
structure SR (P:Program) (ρ:Ren) (M:Mem) (σ:St) (w:World):Prop where
 fits: ∀ b e,ρ b=some e->Ff P ρ M w e (σ.get b)
 bd: ∀ b e,ρ b=some e->b<σ.n
 inj: ∀ b b' e e',ρ b=some e->ρ b'=some e'->e.x=e'.x->b=b'
 mem: ∀ x o,M x=some o->w.heap[x]? = some o
 disj: ∀ b e,ρ b=some e->M e.x=none
structure A8 (P:Program) (ρ:Ren) (M:Mem) (σ:St) (w:World) (ρ':Ren) (M':Mem) (σ':St) (w':World):Prop where
 sr:SR P ρ' M' σ' w'
 g:CT ρ M ρ' M'
 frame: ∀ x,x<w.heap.size->(∀ b e,ρ b=some e->e.x≠x)->w'.heap[x]? = w.heap[x]?
 size:w.heap.size<=w'.heap.size
 fresh: ∀ b e',ρ' b=some e'->(∃ b₀ e,ρ b₀=some e/\e.x=e'.x)\/w.heap.size<=e'.x
 old: ∀ b e',ρ' b=some e'->b<σ.n->∃ e,ρ b=some e
 freshM: ∀ x o,M' x=some o->M x=some o\/w.heap.size<=x
 os:w'.os=w.os
 tape:w'.tape=w.tape
 output:w'.output=w.output
 n:σ.n<=σ'.n
 tch:σ'.tch<=σ.tch
 keep: ∀ b,b<σ.n->b<σ'.tch->σ'.get b=σ.get b
 none: ∀ b,b<σ.n->ρ b=none->σ'.get b=σ.get b
 held: ∀ b e,ρ b=some e->b<σ'.tch->ρ' b=some e/\w'.heap[e.x]? = w.heap[e.x]?
theorem A8.refl {P:Program} {ρ:Ren} {M:Mem} {σ:St} {w:World} (h:SR P ρ M σ w):A8 P ρ M σ w ρ M σ w where
 sr:=h
 g:=.refl _ _
 frame:=λ_ _ _=>rfl
 size:=Nat.le_refl _
 fresh:=λb e h=>.inl ⟨b,e,h,rfl⟩
 old:=λ_ e h _=>⟨e,h⟩
 freshM:=λ_ _ h=>.inl h
 os:=rfl
 tape:=rfl
 output:=rfl
 n:=Nat.le_refl _
 tch:=Nat.le_refl _
 keep:=λ_ _ _=>rfl
 none:=λ_ _ _=>rfl
 held:=λ_ _ h _=>⟨h,rfl⟩
theorem SR.lt {P:Program} {ρ:Ren} {M:Mem} {σ:St} {w:World} (h:SR P ρ M σ w) {b:Nat} {e:Ent} (he:ρ b=some e):e.x<w.heap.size:=by
 have:=h.fits b e he;have hx: ∃ o,w.heap[e.x]? = some o:=by
  cases hg:σ.get b with
  | none=>rw [hg] at this;exact this.elim
  | some o =>
   rw [hg] at this;cases o with
   | blk cs ty ver fz=>obtain ⟨_,_,_,cs',fr,hh,_⟩:=this;exact ⟨_,hh⟩
   | map es clock=>obtain ⟨_,es',hh,_⟩:=this;exact ⟨_,hh⟩
 obtain ⟨o,ho⟩:=hx;exact (Array.getElem?_eq_some_iff.1 ho).1
theorem A8.trans {P:Program} {ρ ρ' ρ'':Ren} {M M' M'':Mem} {σ σ' σ'':St} {w w' w'':World} (h:A8 P ρ M σ w ρ' M' σ' w') (k:A8 P ρ' M' σ' w' ρ'' M'' σ'' w''):A8 P ρ M σ w ρ'' M'' σ'' w'' where
 sr:=k.sr
 g:=h.g.trans k.g
 frame:=λx hx hn=>by
  rw [k.frame x (Nat.lt_of_lt_of_le hx h.size) ?_,h.frame x hx hn];intro b e he hex;rcases h.fresh b e he with ⟨b₀,e₀,h0,h1⟩ | hf
  ·exact hn b₀ e₀ h0 (h1.trans hex)
  ·omega
 size:=Nat.le_trans h.size k.size
 fresh:=λb e'' he=>by
  rcases k.fresh b e'' he with ⟨b₀,e,h0,h1⟩ | hf
  ·rcases h.fresh b₀ e h0 with ⟨b₁,e₁,h2,h3⟩ | hf
   ·exact .inl ⟨b₁,e₁,h2,h3.trans h1⟩
   ·exact .inr (by omega)
  ·exact .inr (Nat.le_trans h.size hf)
 old:=λb e'' he hb=>by
  obtain ⟨e',he'⟩:=k.old b e'' he (Nat.lt_of_lt_of_le hb h.n);exact h.old b e' he' hb
 freshM:=λx o ho=>by
  rcases k.freshM x o ho with h1 | h1
  ·exact h.freshM x o h1
  ·exact .inr (Nat.le_trans h.size h1)
 os:=k.os.trans h.os
 tape:=k.tape.trans h.tape
 output:=k.output.trans h.output
 n:=Nat.le_trans h.n k.n
 tch:=Nat.le_trans k.tch h.tch
 keep:=λb hb ht=>(k.keep b (Nat.lt_of_lt_of_le hb h.n) ht).trans (h.keep b hb (Nat.lt_of_lt_of_le ht k.tch))
 none:=λb hb hn=>by
  have:ρ' b=Option.none:=by
   cases hr:ρ' b with
   | none=>rfl
   | some e'=>obtain ⟨e,he⟩:=h.old b e' hr hb;rw [hn] at he;cases he
  exact (k.none b (Nat.lt_of_lt_of_le hb h.n) this).trans (h.none b hb hn)
 held:=λb e he hb=>by
  obtain ⟨h1,h2⟩:=h.held b e he (Nat.lt_of_lt_of_le hb k.tch);obtain ⟨h3,h4⟩:=k.held b e h1 hb;exact ⟨h3,h4.trans h2⟩
theorem Ff.mono {P:Program} {ρ ρ':Ren} {M M':Mem} {w w':World} {e:Ent} {o:Option AO} (g:CT ρ M ρ' M') (hw:w'.heap[e.x]? = w.heap[e.x]?) (h:Ff P ρ M w e o):Ff P ρ' M' w' e o:=by
 cases o with
 | none=>exact h
 | some o =>
  cases o with
  | blk cs ty ver fz =>
   obtain ⟨h1,h2,h3,cs',fr,h4,h5,h6,h7,h8⟩:=h;exact ⟨h1,h2,h3,cs',fr,hw.trans h4,h5,h6,h7.mono g,h8⟩
  | map es clock =>
   obtain ⟨h1,es',h2,h3⟩:=h;exact ⟨h1,es',hw.trans h2,h3.mono g⟩
theorem St.zAg (σ:St) (b b':Nat) (o:AO):(σ.put b o).get b'=if b'=b then some o else σ.get b':=PT.get_set _ _ _ _
theorem St.zAe (σ:St) (b':Nat) (o:AO):(σ.new o).get b'=if b'=σ.n then some o else σ.get b':=PT.get_set _ _ _ _
structure FH (x:Nat) (w w':World):Prop where
 at_: ∀ y,y≠x->w'.heap[y]? = w.heap[y]?
 size:w'.heap.size=w.heap.size
 os:w'.os=w.os
 tape:w'.tape=w.tape
 output:w'.output=w.output
theorem FH.refl (x:Nat) (w:World):FH x w w:=⟨λ_ _=>rfl,rfl,rfl,rfl,rfl⟩
theorem FH.trans {x:Nat} {w w' w'':World} (h:FH x w w') (k:FH x w' w''):FH x w w'' :=
 ⟨λy hy=>(k.at_ y hy).trans (h.at_ y hy),k.size.trans h.size,k.os.trans h.os,k.tape.trans h.tape,k.output.trans h.output⟩
section
variable {P:Program} {ρ:Ren} {M:Mem} {σ:St} {w:World}
def Ren.upd (ρ:Ren) (b:Nat) (e:Ent):Ren:=λi=>if i=b then some e else ρ i
theorem Ren.zAw (ρ:Ren) (b:Nat) (e:Ent):ρ.upd b e b=some e:=by simp [Ren.upd]
theorem Ren.zAv (ρ:Ren) {b b':Nat} (e:Ent) (h:b'≠b):ρ.upd b e b'=ρ b':=by simp [Ren.upd,h]
theorem M6 (h:SR P ρ M σ w) {o:AO} {o':Obj} {e:Ent} {w':World} (hw:w'.heap=w.heap.push o') (hos:w'.os=w.os) (ht:w'.tape=w.tape) (hout:w'.output=w.output)
 (hex:e.x=w.heap.size) (hf:Ff P (ρ.upd σ.n e) M w' e (some o)):A8 P ρ M σ w (ρ.upd σ.n e) M (σ.new o) w':=by
 have hn:ρ σ.n=none:=by
  cases hr:ρ σ.n with
  | none=>rfl
  | some e=>exact absurd (h.bd _ _ hr) (Nat.lt_irrefl _)
 have g:CT ρ M (ρ.upd σ.n e) M:=⟨λb e₀ he=>⟨e₀,(Ren.zAv ρ e (λhb=>by subst hb;rw [hn] at he;cases he)).trans he,.inl rfl⟩,λ_ _ h=>h⟩
 have hheap: ∀ x,x<w.heap.size->w'.heap[x]? = w.heap[x]? := λx hx=>by rw [hw,Array.getElem?_push];rw [if_neg (by omega)]
 refine ⟨⟨?_,?_,?_,?_,?_⟩,g,λx hx _=>hheap x hx,by rw [hw];simp,?_,?_,λ_ _ h=>.inl h,hos,ht,hout,Nat.le_succ _,Nat.le_refl _,?_,?_,λb e₀ he _=>⟨(Ren.zAv ρ e (λhb=>by subst hb;rw [hn] at he;cases he)).trans he,hheap _ (h.lt he)⟩⟩
 ·intro b e₀ he;by_cases hb:b=σ.n
  ·subst hb;rw [Ren.zAw] at he;cases he;rw [St.zAe,if_pos rfl];exact hf
  ·rw [Ren.zAv _ _ hb] at he;rw [St.zAe,if_neg hb];exact (h.fits b e₀ he).mono g (hheap _ (h.lt he))
 ·intro b e₀ he;by_cases hb:b=σ.n
  ·subst hb;exact Nat.lt_succ_self _
  ·rw [Ren.zAv _ _ hb] at he;exact Nat.lt_succ_of_lt (h.bd _ _ he)
 ·intro b b' e₀ e₁ he he' hx;by_cases hb:b=σ.n
  ·by_cases hb':b'=σ.n
   ·rw [hb,hb']
   ·subst hb;rw [Ren.zAw] at he;cases he;rw [Ren.zAv _ _ hb'] at he';have:=h.lt he';omega
  ·by_cases hb':b'=σ.n
   ·subst hb';rw [Ren.zAw] at he';cases he';rw [Ren.zAv _ _ hb] at he;have:=h.lt he;omega
   ·rw [Ren.zAv _ _ hb] at he;rw [Ren.zAv _ _ hb'] at he';exact h.inj _ _ _ _ he he' hx
 ·intro x o ho;have:=h.mem x o ho;rw [hheap x (Array.getElem?_eq_some_iff.1 this).1];exact this
 ·intro b e₀ he;by_cases hb:b=σ.n
  ·subst hb;rw [Ren.zAw] at he;cases he;cases hm:M e.x with
   | none=>rfl
   | some o=>have:=(Array.getElem?_eq_some_iff.1 (h.mem _ _ hm)).1;omega
  ·rw [Ren.zAv _ _ hb] at he;exact h.disj _ _ he
 ·intro b e' he;by_cases hb:b=σ.n
  ·subst hb;rw [Ren.zAw] at he;cases he;exact .inr (by omega)
  ·rw [Ren.zAv _ _ hb] at he;exact .inl ⟨b,e',he,rfl⟩
 ·intro b e' he hb;rw [Ren.zAv _ _ (by omega)] at he;exact ⟨e',he⟩
 ·intro b hb _;rw [St.zAe,if_neg (by omega)]
 ·intro b hb _;rw [St.zAe,if_neg (by omega)]
theorem M7 (h:SR P ρ M σ w) {b:Nat} {e:Ent} {o:AO} {w':World} (he:ρ b=some e) (hw:FH e.x w w') (hf:Ff P ρ M w' e (some o)):A8 P ρ M σ w ρ M (σ.put b o) w':=by
 refine ⟨⟨?_,?_,h.inj,?_,h.disj⟩,.refl _ _,?_,by rw [hw.size];exact Nat.le_refl _,λb e h=>.inl ⟨b,e,h,rfl⟩,λ_ e h _=>⟨e,h⟩,λ_ _ h=>.inl h,hw.os,hw.tape,hw.output,Nat.le_refl _,?_,?_,?_,?_⟩
 ·intro b' e' he';by_cases hb:b'=b
  ·subst hb;rw [he] at he';cases he';rw [St.zAg,if_pos rfl];exact hf
  ·rw [St.zAg,if_neg hb];refine (h.fits b' e' he').mono (.refl _ _) (hw.at_ _ ?_);intro hx;exact hb (h.inj _ _ _ _ he' he hx)
 ·intro b' e' he';exact h.bd _ _ he'
 ·intro x o ho;rw [hw.at_ x ?_];exact h.mem x o ho;intro hx;subst hx;rw [h.disj _ _ he] at ho;cases ho
 ·intro x hx hn;exact hw.at_ x λhx=>hn b e he hx.symm
 ·show (bif Nat.blt b σ.tch then b else σ.tch)<=σ.tch;cases hb:Nat.blt b σ.tch with
  | true=>have:=(Nat.blt_eq).mp hb;simp;omega
  | false=>simp
 ·intro b' _ ht;have ht':b'<(bif Nat.blt b σ.tch then b else σ.tch):=ht;rw [St.zAg,if_neg];intro hb;subst hb;cases hb:Nat.blt b' σ.tch with
  | true=>rw [hb] at ht';simp at ht'
  | false =>
   rw [hb] at ht';simp at ht';have:Nat.blt b' σ.tch=true:=(Nat.blt_eq).mpr ht';rw [hb] at this;cases this
 ·intro b' _ hn;rw [St.zAg,if_neg];intro hb;subst hb;rw [he] at hn;cases hn
 ·intro b' e' he' ht;refine ⟨he',hw.at_ _ λhx=>?_⟩;have hb:=h.inj _ _ _ _ he' he hx;subst hb;have ht':b'<(bif Nat.blt b' σ.tch then b' else σ.tch):=ht;cases hb:Nat.blt b' σ.tch with
  | true=>rw [hb] at ht';simp at ht'
  | false =>
   rw [hb] at ht';simp at ht';have:Nat.blt b' σ.tch=true:=(Nat.blt_eq).mpr ht';rw [hb] at this;cases this
theorem Vp (h:SR P ρ M σ w) {b:Nat} {e e':Ent} {o:AO} {w':World} (he:ρ b=some e) (hv:e.ver<e'.ver) (hsz:e.sz≠0)
 (hat: ∀ y,y<w.heap.size->y≠e.x->w'.heap[y]? = w.heap[y]?) (hsize:w.heap.size<=w'.heap.size) (hos:w'.os=w.os) (ht:w'.tape=w.tape) (hout:w'.output=w.output)
 (hx:e'.x=e.x\/(w.heap.size<=e'.x)) (hff:CT ρ M (ρ.upd b e') M->Ff P (ρ.upd b e') M w' e' (some o)):A8 P ρ M σ w (ρ.upd b e') M (σ.put b o) w':=by
 have g:CT ρ M (ρ.upd b e') M:=by
  refine ⟨λb₀ e₀ he₀=>?_,λ_ _ h=>h⟩;by_cases hb:b₀=b
  ·subst hb;rw [he] at he₀;cases he₀;exact ⟨e',Ren.zAw _ _ _,.inr ⟨hv,hsz⟩⟩
  ·exact ⟨e₀,by rw [Ren.zAv _ _ hb];exact he₀,.inl rfl⟩
 have hf:=hff g;have hM:M e'.x=none:=by
  rcases hx with hx | hx
  ·rw [hx];exact h.disj _ _ he
  ·cases hm:M e'.x with
   | none=>rfl
   | some o=>have:=(Array.getElem?_eq_some_iff.1 (h.mem _ _ hm)).1;omega
 have hne: ∀ b₀ e₀,b₀≠b->ρ b₀=some e₀->e₀.x≠e'.x:=by
  intro b₀ e₀ hb he₀ hxx;rcases hx with hx | hx
  ·exact hb (h.inj _ _ _ _ he₀ he (hxx.trans hx))
  ·have:=h.lt he₀;omega
 refine ⟨⟨?_,?_,?_,?_,?_⟩,g,?_,hsize,?_,?_,λ_ _ h=>.inl h,hos,ht,hout,Nat.le_refl _,?_,?_,?_,?_⟩
 ·intro b₀ e₀ he₀;by_cases hb:b₀=b
  ·subst hb;rw [Ren.zAw] at he₀;cases he₀;rw [St.zAg,if_pos rfl];exact hf
  ·rw [Ren.zAv _ _ hb] at he₀;rw [St.zAg,if_neg hb];refine (h.fits b₀ e₀ he₀).mono g (hat _ (h.lt he₀) ?_);intro hx;exact hb (h.inj _ _ _ _ he₀ he hx)
 ·intro b₀ e₀ he₀;by_cases hb:b₀=b
  ·subst hb;exact h.bd _ _ he
  ·rw [Ren.zAv _ _ hb] at he₀;exact h.bd _ _ he₀
 ·intro b₀ b₁ e₀ e₁ h0 h1 hxx;by_cases hb:b₀=b
  ·by_cases hb':b₁=b
   ·rw [hb,hb']
   ·subst hb;rw [Ren.zAw] at h0;cases h0;rw [Ren.zAv _ _ hb'] at h1;exact absurd hxx.symm (hne _ _ hb' h1)
  ·by_cases hb':b₁=b
   ·subst hb';rw [Ren.zAw] at h1;cases h1;rw [Ren.zAv _ _ hb] at h0;exact absurd hxx (hne _ _ hb h0)
   ·rw [Ren.zAv _ _ hb] at h0;rw [Ren.zAv _ _ hb'] at h1;exact h.inj _ _ _ _ h0 h1 hxx
 ·intro x o ho;have hm:=h.mem x o ho;rw [hat x (Array.getElem?_eq_some_iff.1 hm).1 ?_];exact hm;intro hx;subst hx;rw [h.disj _ _ he] at ho;cases ho
 ·intro b₀ e₀ he₀;by_cases hb:b₀=b
  ·subst hb;rw [Ren.zAw] at he₀;cases he₀;exact hM
  ·rw [Ren.zAv _ _ hb] at he₀;exact h.disj _ _ he₀
 ·intro x hx hn;exact hat x hx λhx=>hn b e he hx.symm
 ·intro b₀ e₀ he₀;by_cases hb:b₀=b
  ·subst hb;rw [Ren.zAw] at he₀;cases he₀;rcases hx with hx | hx
   ·exact .inl ⟨_,e,he,hx.symm⟩
   ·exact .inr hx
  ·rw [Ren.zAv _ _ hb] at he₀;exact .inl ⟨b₀,e₀,he₀,rfl⟩
 ·intro b₀ e₀ he₀ _;by_cases hb:b₀=b
  ·subst hb;exact ⟨e,he⟩
  ·rw [Ren.zAv _ _ hb] at he₀;exact ⟨e₀,he₀⟩
 ·show (bif Nat.blt b σ.tch then b else σ.tch)<=σ.tch;cases hb:Nat.blt b σ.tch with
  | true=>have:=(Nat.blt_eq).mp hb;simp;omega
  | false=>simp
 ·intro b' _ ht;have ht':b'<(bif Nat.blt b σ.tch then b else σ.tch):=ht;rw [St.zAg,if_neg];intro hb;subst hb;cases hb:Nat.blt b' σ.tch with
  | true=>rw [hb] at ht';simp at ht'
  | false =>
   rw [hb] at ht';simp at ht';have:Nat.blt b' σ.tch=true:=(Nat.blt_eq).mpr ht';rw [hb] at this;cases this
 ·intro b' _ hn;rw [St.zAg,if_neg];intro hb;subst hb;rw [he] at hn;cases hn
 ·intro b' e₀ he' ht;have hne2:b'≠b:=by
   intro hb;subst hb;have ht':b'<(bif Nat.blt b' σ.tch then b' else σ.tch):=ht;cases hb:Nat.blt b' σ.tch with
   | true=>rw [hb] at ht';simp at ht'
   | false =>
    rw [hb] at ht';simp at ht';have:Nat.blt b' σ.tch=true:=(Nat.blt_eq).mpr ht';rw [hb] at this;cases this
  exact ⟨(Ren.zAv ρ e' hne2).trans he',hat _ (h.lt he') λhx=>hne2 (h.inj _ _ _ _ he' he hx)⟩
theorem uM (h:SR P ρ M σ w) {w':World} (hw:w'.heap=w.heap) (hos:w'.os=w.os) (ht:w'.tape=w.tape) (hout:w'.output=w.output):A8 P ρ M σ w ρ M σ w':=by
 refine ⟨⟨λb e he=>(h.fits b e he).mono (.refl _ _) (by rw [hw]),h.bd,h.inj,λx o ho=>by rw [hw];exact h.mem x o ho,h.disj⟩,.refl _ _,λx _ _=>by rw [hw],by rw [hw];exact Nat.le_refl _,
  λb e h=>.inl ⟨b,e,h,rfl⟩,λ_ e h _=>⟨e,h⟩,λ_ _ h=>.inl h,hos,ht,hout,Nat.le_refl _,Nat.le_refl _,λ_ _ _=>rfl,λ_ _ _=>rfl,λ_ _ h _=>⟨h,by rw [hw]⟩⟩
theorem Vr (h:SR P ρ M σ w) {o':Obj} {w':World} (hw:w'.heap=w.heap.push o') (hos:w'.os=w.os) (ht:w'.tape=w.tape) (hout:w'.output=w.output) :
 A8 P ρ M σ w ρ (λx=>if x=w.heap.size then some o' else M x) σ w':=by
 have hM:M w.heap.size=none:=by
  cases hm:M w.heap.size with
  | none=>rfl
  | some o=>have:=(Array.getElem?_eq_some_iff.1 (h.mem _ _ hm)).1;omega
 have g:CT ρ M ρ (λx=>if x=w.heap.size then some o' else M x):=⟨λ_ e h=>⟨e,h,.inl rfl⟩,λx o ho=>by
  have:x≠w.heap.size:=by intro hx;subst hx;rw [hM] at ho;cases ho
  exact (if_neg this).trans ho⟩
 have hheap: ∀ x,x<w.heap.size->w'.heap[x]? = w.heap[x]? := λx hx=>by rw [hw,Array.getElem?_push];rw [if_neg (by omega)]
 refine ⟨⟨λb e he=>(h.fits b e he).mono g (hheap _ (h.lt he)),h.bd,h.inj,?_,?_⟩,g,λx hx _=>hheap x hx,by rw [hw];simp,λb e h=>.inl ⟨b,e,h,rfl⟩,λ_ e h _=>⟨e,h⟩,?_,hos,ht,hout,Nat.le_refl _,Nat.le_refl _,λ_ _ _=>rfl,λ_ _ _=>rfl,λ_ _ he _=>⟨he,hheap _ (h.lt he)⟩⟩
 ·intro x o ho;have ho:(if x=w.heap.size then some o' else M x)=some o:=ho;by_cases hx:x=w.heap.size
  ·subst hx;rw [if_pos rfl] at ho;cases ho;rw [hw];simp
  ·rw [if_neg hx] at ho;have hm:=h.mem x o ho;rw [hheap x (Array.getElem?_eq_some_iff.1 hm).1];exact hm
 ·intro b e he;have hl:=h.lt he;show (if e.x=w.heap.size then some o' else M e.x)=Option.none;rw [if_neg (by omega)];exact h.disj _ _ he
 ·intro x o ho;have ho:(if x=w.heap.size then some o' else M x)=some o:=ho;by_cases hx:x=w.heap.size
  ·exact .inr (by omega)
  ·rw [if_neg hx] at ho;exact .inl ho
end
theorem Cx (x o i:Nat):(⟨x,o,none⟩:Addr).add i=⟨x,o+i,none⟩:=by
 unfold Addr.add
 split
 ·subst_vars;rfl
 ·rfl
theorem Rv {w:World} {x:Nat} {cs:Array Value} {t:TypeId} {fr:Nat×Nat} (h:w.heap[x]? = some (.cells cs t fr)) (k:Nat):w.cell? ⟨x,k,none⟩=cs[k]? := by
 simp [World.cell?,h]
theorem O1 {w:World} {x:Nat} {cs:Array Value} {t:TypeId} {fr:Nat×Nat} (h:w.heap[x]? = some (.cells cs t fr)) (k:Nat):w.frozen? ⟨x,k,none⟩=(decide (fr.1<=k)&&decide (k<fr.2)):=by
 simp [World.frozen?,h]
def Row (w:World) (x o:Nat) (l:List Value):Prop:=∀ (j:Nat) (v:Value),l[j]? = some v->w.cell? ⟨x,o+j,none⟩=some v
theorem Row.drop {w:World} {x o:Nat} {l:List Value} (h:Row w x o l) (n:Nat):Row w x (o+n) (l.drop n):=by
 intro j v hv;rw [List.getElem?_drop] at hv;have:=h (n+j) v hv
 rwa [<-Nat.add_assoc] at this
theorem Row.take {w:World} {x o:Nat} {l:List Value} (h:Row w x o l) (n:Nat):Row w x o (l.take n):=by
 intro j v hv;rw [List.getElem?_take] at hv;split at hv
 ·exact h j v hv
 ·cases hv
theorem Row.front {w:World} {x o:Nat} {a b:List Value} (h:Row w x o (a++b)):Row w x o a:=by
 have:=h.take a.length;simpa using this
theorem GD {w:World} {x:Nat} {cs:Array Value} {t:TypeId} {fr:Nat×Nat} (h:w.heap[x]? = some (.cells cs t fr)) (o:Nat):Row w x o (cs.toList.drop o):=by
 intro j v hv;rw [Rv h];rw [List.getElem?_drop] at hv;simpa using hv
theorem Pd {P:Program} {w:World} {x o:Nat} {l:List Value} (h:Row w x o l):(loadCells ⟨x,o,none⟩ l.length).run P w=.ok l.toArray w :=
 run_loadCells_list w _ l λj v hv=>by rw [Cx];exact h j v hv
section
variable {P:Program} {ρ:Ren} {M:Mem}
theorem KZ {t:TypeId} {d:TypeDesc} (h:P.underlying t=some d) (w:World):(isAgg t).run P w=.ok (Be d) w:=by
 unfold isAgg underlying;simp only [Sem.run_bind,run_program,Result.andThen_ok,h,Sem.run_pure];cases d<;>rfl
theorem DJ {t:TypeId} {i:TypeInfo} (h:P.info? t=some i) (w:World):(Go.sizeOf t).run P w=.ok i.size w:=by
 unfold Go.sizeOf typeInfo;simp only [Sem.run_bind,run_program,Result.andThen_ok,h,Sem.run_pure]
theorem Jw {t:TypeId} {i:TypeInfo} (h:P.info? t=some i) (w:World):(typeInfo t).run P w=.ok i w:=by
 unfold typeInfo;simp only [Sem.run_bind,run_program,Result.andThen_ok,h,Sem.run_pure]
theorem BC {t:TypeId} {d:TypeDesc} (h:P.underlying t=some d) (w:World):(Go.underlying t).run P w=.ok d w:=by
 unfold Go.underlying;simp only [Sem.run_bind,run_program,Result.andThen_ok,h,Sem.run_pure]
theorem Up {t:TypeId} {cs:List V} {off:Nat} {v:V} {l:List Value} (hp:part P t cs off=some v) (hl:VRL ρ M cs l) :
 ∃ i d,P.info? t=some i/\P.underlying t=some d /\
  ((Be d=true/\((l.drop off).take i.size).length=i.size/\VR ρ M v (.agg ((l.drop off).take i.size).toArray)) \/
   (Be d=false/\∃ v',l[off]? = some v'/\VR ρ M v v'/\v.one=true)):=by
 unfold part at hp;split at hp
 ·rename_i i d hi hd;refine ⟨i,d,hi,hd,?_⟩;by_cases ha:Be d=true
  ·rw [if_pos ha] at hp;simp only at hp;split at hp
   ·rename_i hlen;cases hp;have h2:=(hl.drop off).take i.size;have:=h2.length;have h3:=Nat.eq_of_beq_eq_true hlen;exact .inl ⟨ha,by rw [<-this,h3],.agg _ _ h2⟩
   ·cases hp
  ·rw [if_neg ha] at hp;split at hp
   ·rename_i v0 hv0;split at hp
    ·rename_i h1;cases hp;obtain ⟨v',hv',hr⟩:=hl.get hv0;exact .inr ⟨by simpa using ha,v',hv',hr,h1⟩
    ·cases hp
   ·cases hp
 ·cases hp
theorem Pf {t:TypeId} {cs:List V} {off:Nat} {v:V} {l:List Value} {w:World} {x o:Nat} (hp:part P t cs off=some v) (hl:VRL ρ M cs l) (hr:Row w x o l) :
 ∃ v',(loadVar t ⟨x,o+off,none⟩).run P w=.ok v' w/\VR ρ M v v':=by
 obtain ⟨i,d,hi,hd,⟨ha,hlen,hv⟩ | ⟨ha,v',hv',hv,_⟩⟩:=Up hp hl
 ·refine ⟨_,?_,hv⟩;have hrow:=(hr.drop off).take i.size;have:=Pd (P:=P) hrow;rw [hlen] at this;unfold loadVar;simp only [Sem.run_bind,KZ hd,Result.andThen_ok,ha,if_true,DJ hi,this,Sem.run_pure]
 ·refine ⟨v',?_,hv⟩;unfold loadVar;simp only [Sem.run_bind,KZ hd,Result.andThen_ok,ha,Bool.false_eq_true,if_false,run_load,hr off v' hv']
theorem Uq {t:TypeId} {cs:List V} {off:Nat} {v:V} {cs':Array Value} (hp:part P t cs off=some v) (hl:VRL ρ M cs cs'.toList) (w:World) :
 ∃ v',(Go.part t cs' off).run P w=.ok v' w/\VR ρ M v v':=by
 obtain ⟨i,d,hi,hd,⟨ha,hlen,hv⟩ | ⟨ha,v',hv',hv,_⟩⟩:=Up hp hl
 ·refine ⟨_,?_,hv⟩;unfold Go.part;simp only [Sem.run_bind,KZ hd,Result.andThen_ok,ha,if_true,DJ hi,Sem.run_pure]
  congr 2
  apply Array.ext';simp [List.take_drop]
 ·refine ⟨v',?_,hv⟩;have hv'':cs'[off]? = some v':=by simpa using hv'
  unfold Go.part;simp only [Sem.run_bind,KZ hd,Result.andThen_ok,ha,Bool.false_eq_true,if_false,hv'',Sem.run_pure]
theorem Bz.elem {sz:Nat} {xs:List V} {l:List Value} (h:Bz ρ M sz xs l) {i:Nat} {x:V} (hx:xs[i]? = some x) :
 ∃ a b,l.drop (i*sz)=a++b/\VRL ρ M x.cells a/\x.cells.length=sz:=by
 induction xs generalizing i l with
 | nil=>simp at hx
 | cons y xs ih =>
  cases h with
  | cons _ _ _ cs l h1 h2 h3 =>
   cases i with
   | zero=>simp at hx;subst hx;exact ⟨cs,l,by simp,h1,h2⟩
   | succ i =>
    simp at hx;obtain ⟨a,b,h4,h5,h6⟩:=ih h3 hx;refine ⟨a,b,?_,h5,h6⟩;have hl:=h1.length;have e1:(i+1)*sz=cs.length+i*sz:=by rw [Nat.succ_mul];omega
    rw [<-h4,e1,List.drop_append,List.drop_of_length_le (by omega),List.nil_append,Nat.add_sub_cancel_left]
def GOk (E:Env) (M:Mem):Prop:=(∀ g cs,E.G g=some cs->∃ cs' t fr,M g=some (.cells cs' t fr)/\∀ ρ,VRL ρ M cs cs'.toList) /\
 ∀ f g,E.extn f=some (.indexStr g)->∃ cs' t fr m,M g=some (.cells cs' t fr)/\cs'[0]? = some (.int .i64 m)
theorem GOk.mono {E:Env} {M M':Mem} (h:GOk E M) (hm: ∀ x o,M x=some o->M' x=some o):GOk E M':=by
 refine ⟨λg cs hg=>?_,λf g hf=>?_⟩
 ·obtain ⟨cs',t,fr,h1,h2⟩:=h.1 g cs hg;exact ⟨cs',t,fr,hm _ _ h1,λρ=>(h2 ρ).mono ⟨λ_ e h=>⟨e,h,.inl rfl⟩,hm⟩⟩
 ·obtain ⟨cs',t,fr,m,h1,h2⟩:=h.2 f g hf;exact ⟨cs',t,fr,m,hm _ _ h1,h2⟩
theorem CV {σ:St} {w:World} (h:SR P ρ M σ w) {b:Nat} {e:Ent} {cs:List V} {ty:TypeId} {ver:Nat} {fz:Bool} (he:ρ b=some e) (hb:σ.get b=some (.blk cs ty ver fz)) :
 ver=e.ver/\(ver=0->e.s=0)/\e.sz=P.cellsOf ty/\∃ cs' fr,w.heap[e.x]? = some (.cells cs' ty fr)/\cs'.size=e.size/\e.s+cs.length<=e.size /\
  VRL ρ M cs ((cs'.toList.drop e.s).take cs.length)/\(fz=false->KE fr e.size e.sz):=by
 have:=h.fits b e he;rw [hb] at this;exact this
theorem IZ {σ:St} {w:World} (h:SR P ρ M σ w) {b:Nat} {e:Ent} {es:List (V×V×Nat)} {clock:Nat} (he:ρ b=some e) (hb:σ.get b=some (.map es clock)) :
 e.sz=0/\∃ es',w.heap[e.x]? = some (.map es' clock)/\MRL ρ M es es'.toList:=by
 have:=h.fits b e he;rw [hb] at this;exact this
theorem UE {E:Env} {σ:St} {w:World} {t:TypeId} {p v:V} {p':Value} (hl:SS.loadAt E t p σ=some v) (h:SR E.P ρ M σ w) (hg:GOk E M) (hp:VR ρ M p p') :
 ∃ v',(Instr.loadAt t p').run E.P w=.ok v' w/\VR ρ M v v':=by
 unfold SS.loadAt at hl;split at hl
 ·rename_i b ver off;split at hl
  ·rename_i cs ty ver' fz hb;split at hl
   ·rename_i hver;have hver:=Nat.eq_of_beq_eq_true hver;cases hp with
    | ptrOld _ _ _ e _ h1 h2=>exact absurd (CV h h1 hb).1 (by omega)
    | ptr _ _ e h1 =>
     obtain ⟨_,_,_,cs',fr,hh,hsz,hle,hv,_⟩:=CV h h1 hb;have hr:=(GD hh e.s).take cs.length;obtain ⟨v',h4,h5⟩:=Pf hl hv hr;exact ⟨v',by simpa [Instr.loadAt,Instr.sureAddr] using h4,h5⟩
   ·cases hl
  ·cases hl
 ·rename_i xs i j;split at hl
  ·rename_i x hx;cases hp with
   | eptr _ _ _ sz b o cs t fr h1 h2 h3 =>
    have hh:=h.mem _ _ h1;obtain ⟨a,bb,h4,h5,h6⟩:=h2.elem hx;have hr:=(GD hh o).drop (i*sz);rw [h4] at hr;obtain ⟨v',h7,h8⟩:=Pf hl h5 hr.front;exact ⟨v',by simpa [Instr.loadAt,Instr.sureAddr] using h7,h8⟩
  ·cases hl
 ·rename_i g off;split at hl
  ·rename_i cs hcs;cases hp with
   | gptr =>
    obtain ⟨cs',t',fr,h1,h2⟩:=hg.1 g cs hcs;have hh:=h.mem _ _ h1;have hr:=GD hh 0;simp only [List.drop_zero] at hr;obtain ⟨v',h7,h8⟩:=Pf hl (h2 ρ) hr;rw [Nat.zero_add] at h7;exact ⟨v',by simpa [Instr.loadAt,Instr.sureAddr] using h7,h8⟩
  ·cases hl
 ·cases hl
theorem VV {cs cs':List V} {off:Nat} {vs:List V} (h:Ca cs off vs=some cs'):cs'.length=cs.length/\off+vs.length<=cs.length:=by
 induction vs generalizing cs off with
 | nil =>
  unfold Ca at h;split at h
  ·rename_i hle;cases h;exact ⟨rfl,by simpa using Nat.le_of_ble_eq_true hle⟩
  ·cases h
 | cons v vs ih =>
  unfold Ca at h;split at h
  ·obtain ⟨h1,h2⟩:=ih h;simp only [List.length_set] at h1 h2;exact ⟨h1,by simp only [List.length_cons];omega⟩
  ·cases h
theorem VU {cs cs':List V} {off:Nat} {vs:List V} (h:Ca cs off vs=some cs'):cs'=cs.take off++vs++cs.drop (off+vs.length)/\∀ v∈vs,v.one=true:=by
 induction vs generalizing cs off with
 | nil =>
  unfold Ca at h;split at h
  ·cases h;simp
  ·cases h
 | cons v vs ih =>
  unfold Ca at h;split at h
  ·rename_i hc;simp only [Bool.and_eq_true] at hc;have hlt:off<cs.length:=(Nat.blt_eq).mp hc.1;obtain ⟨h1,h2⟩:=ih h;refine ⟨?_,λu hu=>?_⟩
   ·rw [h1];have e1:(cs.set off v).take (off+1)=cs.take off++[v]:=by
     rw [List.take_succ_eq_append_getElem (by simpa using hlt),List.take_set_of_le (Nat.le_refl _)];simp
    have e2:(cs.set off v).drop (off+1+vs.length)=cs.drop (off+(v :: vs).length):=by
     rw [List.drop_set_of_lt (by omega)];simp only [List.length_cons]
     congr 1;omega
    rw [e1,e2];simp
   ·rcases List.mem_cons.1 hu with rfl | hu
    ·exact hc.2
    ·exact h2 u hu
  ·cases h
theorem oN {v':Value} (h:v'.oneCell'=true) (w:World) {x k:Nat} {cs:Array Value} {t:TypeId} {fr:Nat×Nat} (hb:w.heap[x]? = some (.cells cs t fr)) (hk:k<cs.size)
 (hf:¬(fr.1<=k/\k<fr.2)) (P:Program):(store ⟨x,k,none⟩ v').run P w=.ok () (w.setCell ⟨x,k,none⟩ v'):=by
 rw [run_store P w _ _ _ h,Rv hb];have:cs[k]? = some cs[k]:=by simp [hk]
 rw [this,O1 hb];have hd:(decide (fr.1<=k)&&decide (k<fr.2))=false:=by
  cases hd:(decide (fr.1<=k)&&decide (k<fr.2)) with
  | false=>rfl
  | true=>simp at hd;exact absurd hd hf
 simp [hd]
theorem dN {w:World} {x k:Nat} {cs:Array Value} {t:TypeId} {fr:Nat×Nat} (hb:w.heap[x]? = some (.cells cs t fr)) (v:Value) :
 (w.setCell ⟨x,k,none⟩ v).heap[x]? = some (.cells (cs.setIfInBounds k v) t fr):=by
 simp [World.setCell,Array.getElem?_modify,hb]
theorem oQ (w:World) (x k:Nat) (v:Value):FH x w (w.setCell ⟨x,k,none⟩ v):=by
 refine ⟨λy hy=>?_,by simp [World.setCell],rfl,rfl,rfl⟩;simp only [World.setCell,Array.getElem?_modify];rw [if_neg (λh=>hy h.symm)]
theorem Vs {x o:Nat} {t:TypeId} {fr:Nat×Nat}: ∀ (vs:List Value) (i:Nat) (w:World) (cs:Array Value),w.heap[x]? = some (.cells cs t fr)->(∀ v∈vs,v.oneCell'=true) ->
 o+i+vs.length<=cs.size->(∀ j,j<cs.size->¬(fr.1<=j/\j<fr.2)) ->
 ∃ w' cs',(storeCells ⟨x,o,none⟩ vs i).run P w=.ok () w'/\FH x w w'/\w'.heap[x]? = some (.cells cs' t fr)/\cs'.size=cs.size/\cs'.toList=cs.toList.take (o+i)++vs++cs.toList.drop (o+i+vs.length):=by
 intro vs
 induction vs with
 | nil =>
  intro i w cs hb _ hle _;exact ⟨w,cs,rfl,.refl _ _,hb,rfl,by simp⟩
 | cons v vs ih =>
  intro i w cs hb hone hle hf;simp only [List.length_cons] at hle;have h1:=oN (hone v (by simp)) w hb (k:=o+i) (by omega) (hf _ (by omega)) P;have hb':=dN (k:=o+i) hb v;obtain ⟨w',cs',h2,h3,h4,h5,h6⟩:=ih (i+1) (w.setCell ⟨x,o+i,none⟩ v) (cs.setIfInBounds (o+i) v) hb' (λu hu=>hone u (by simp [hu])) (by simp;omega) (by simpa using hf);refine ⟨w',cs',?_,(oQ w x (o+i) v).trans h3,h4,by simpa using h5,?_⟩
  ·simp only [storeCells,Cx,Sem.run_bind,h1,Result.andThen_ok,h2]
  ·rw [h6];have hlt:o+i<cs.toList.length:=by simp;omega
   have e1:(cs.setIfInBounds (o+i) v).toList.take (o+(i+1))=cs.toList.take (o+i)++[v]:=by
    rw [Array.toList_setIfInBounds,show o+(i+1)=(o+i)+1 by omega,List.take_succ_eq_append_getElem (by simpa using hlt),List.take_set_of_le (Nat.le_refl _)];simp
   have e2:(cs.setIfInBounds (o+i) v).toList.drop (o+(i+1)+vs.length)=cs.toList.drop (o+i+(v :: vs).length):=by
    rw [Array.toList_setIfInBounds,List.drop_set_of_lt (by omega)];simp only [List.length_cons]
    congr 1;omega
   rw [e1,e2];simp
theorem J3 {E:Env} {σ:St} {w:World} (h:SR E.P ρ M σ w) {b:Nat} {e:Ent} {cs cs1:List V} {ty:TypeId} (he:ρ b=some e) (hb:σ.get b=some (.blk cs ty e.ver false))
 {off:Nat} {vs:List V} {vs':List Value} (hs:Ca cs off vs=some cs1) (hv:VRL ρ M vs vs') :
 ∃ w',(storeCells ⟨e.x,e.s+off,none⟩ vs').run E.P w=.ok () w'/\A8 E.P ρ M σ w ρ M (σ.put b (.blk cs1 ty e.ver false)) w':=by
 obtain ⟨_,hv0,hsz,cs',fr,hh,hsize,hle,hv1,hfr⟩:=CV h he hb;obtain ⟨hlen,hoff⟩:=VV hs;obtain ⟨heq,hone⟩:=VU hs;have hvl:=hv.length;have hone': ∀ v∈vs',v.oneCell'=true:=by
  intro v' hv';obtain ⟨i,hi⟩:=List.getElem?_of_mem hv';have hil:i<vs'.length:=(List.getElem?_eq_some_iff.1 hi).1;have:vs[i]? = some vs[i]:=by simp
  obtain ⟨u,hu,hr⟩:=hv.get this;rw [hi] at hu;cases hu;rw [<-hr.one];exact hone _ (List.getElem_mem _)
 obtain ⟨w',cs2,h1,h2,h3,h4,h5⟩:=Vs (P:=E.P) (x:=e.x) (o:=e.s+off) vs' 0 w cs' hh hone' (by omega) (by rw [hsize];exact (hfr rfl).not);refine ⟨w',h1,M7 h he h2 ⟨rfl,hv0,hsz,cs2,fr,h3,h4.trans hsize,by omega,?_,λ_=>hfr rfl⟩⟩;rw [h5,heq];have hcl:cs'.toList.length=e.size:=by simpa using hsize
 simp only [Nat.add_zero];have hA:VRL ρ M (cs.take off) ((cs'.toList.drop e.s).take off):=by
  have:=hv1.take off
  rwa [List.take_take,Nat.min_eq_left (by omega)] at this
 have hB:VRL ρ M (cs.drop (off+vs.length)) (((cs'.toList.drop e.s).take cs.length).drop (off+vs.length)):=hv1.drop _
 have key:((cs'.toList.take (e.s+off)++vs'++cs'.toList.drop (e.s+off+vs'.length)).drop e.s).take (cs.take off++vs++cs.drop (off+vs.length)).length
  = (cs'.toList.drop e.s).take off++vs'++((cs'.toList.drop e.s).take cs.length).drop (off+vs.length):=by
  apply List.ext_getElem?;intro j;have hL:(cs.take off++vs++cs.drop (off+vs.length)).length=cs.length:=by simp;omega
  rw [hL];simp only [List.getElem?_take,List.getElem?_drop,List.getElem?_append,List.length_append,List.length_take,List.length_drop]
  grind
 rw [key];exact (hA.append hv).append hB
theorem uO {E:Env} {σ σ':St} {w:World} {t:TypeId} {p v:V} {p' v':Value} (hl:SS.storeAt E t p v σ=some σ') (h:SR E.P ρ M σ w) (hp:VR ρ M p p') (hv:VR ρ M v v') :
 ∃ w',(Instr.storeAt t p' v').run E.P w=.ok () w'/\A8 E.P ρ M σ w ρ M σ' w':=by
 unfold SS.storeAt at hl;split at hl
 ·rename_i b ver off inf hinf;split at hl
  ·rename_i cs ty ver' hb;split at hl
   ·rename_i hc;simp only [Bool.and_eq_true] at hc;have hver:=Nat.eq_of_beq_eq_true hc.1;have hsz:=Nat.eq_of_beq_eq_true hc.2;split at hl
    ·rename_i cs1 hs;cases hl;subst hver;cases hp with
     | ptrOld _ _ _ e _ h1 h2=>exact absurd (CV h h1 hb).1 (by omega)
     | ptr _ _ e h1 =>
      obtain ⟨w',h2,h3⟩:=J3 h h1 hb hs hv.cells;refine ⟨w',?_,h3⟩;have hlen:v'.cells.size=inf.size:=by have:=hv.cells.length;simpa using this.symm.trans hsz
      simp only [Instr.storeAt,Instr.sureAddr,storeVar,Sem.run_bind,Sem.run_pure,Result.andThen_ok,DJ hinf,hlen,ne_eq,not_true_eq_false,if_false];simpa using h2
    ·cases hl
   ·cases hl
  ·cases hl
 ·cases hl
end
section
variable {ρ:Ren} {M:Mem}
theorem uS (s:ByteArray):(⟨s.data.toList.toArray⟩:ByteArray)=s:=by
 cases s;simp
theorem Ub {c:Value} {v:V} (h:MV c=some v):VR ρ M v c:=by
 unfold MV at h
 split at h<;>first
  | (cases h;first | exact .bool _ | exact .int _ _ | exact .ptr0 | exact .nilS | exact .map0 | exact .fn0 | exact .if0 | (have:=VR.str (ρ:=ρ) (M:=M) (‹ByteArray›).data.toList;rwa [uS] at this))
  | cases h
theorem Uc: ∀ {cs:List Value} {vs:List V},MW cs=some vs->VRL ρ M vs cs
 | [],vs,h=>by cases h;exact .nil
 | c :: cs,vs,h=>by
  unfold MW at h;split at h
  ·rename_i x xs hx hxs;cases h;exact .cons _ _ _ _ (Ub hx) (Uc hxs)
  ·cases h
theorem FC:VR ρ M (.tup []) undef:=.tup [] [] .nil
theorem MX {c:Value} {v:V} (h:Kj c=some v):VR ρ M v c:=by
 unfold Kj at h;split at h
 ·rename_i cs;split at h
  ·rename_i xs hx;cases h;have:=VR.agg (ρ:=ρ) (M:=M) _ _ (Uc hx);simpa using this
  ·cases h
 ·rename_i cs;split at h
  ·rename_i he;cases h;have:cs=#[]:=by simpa using he
   subst this;exact FC
  ·cases h
 ·exact Ub h
theorem Fe {P:Program} {t:TypeId} {z:V} (h:Cm P t=some z) (w:World): ∃ zv,(zeroValue t).run P w=.ok zv w/\VR ρ M z zv:=by
 unfold Cm at h;split at h
 ·rename_i i hi;split at h
  ·rename_i zv hz;refine ⟨zv,?_,MX h⟩;unfold zeroValue;simp only [Sem.run_bind,Jw hi,Result.andThen_ok,hz,Sem.run_pure]
  ·cases h
 ·cases h
inductive DR (ρ:Ren) (M:Mem):List Nat->List (FuncId×List V)->List Deferred->Prop
 | nil:DR ρ M [] [] []
 | fn (f:FuncId) (vs:List V) (cap args:Array Value) (ms:List Nat) (ds:List (FuncId×List V)) (l:List Deferred):VRL ρ M vs (args++cap).toList->DR ρ M ms ds l->DR ρ M ms ((f,vs) :: ds) ({ target:=.fn (.func f) cap,args:=args } :: l)
 | mark (D:Nat) (ms:List Nat) (ds:List (FuncId×List V)) (l:List Deferred):DR ρ M ms ds l->DR ρ M (D :: ms) ds ({ target:=.collected D,args:=#[] } :: l)
theorem DR.mono {ρ':Ren} {M':Mem} (g:CT ρ M ρ' M') {ms:List Nat} {ds:List (FuncId×List V)} {l:List Deferred} (h:DR ρ M ms ds l):DR ρ' M' ms ds l:=by
 induction h with
 | nil=>exact .nil
 | fn f vs cap args ms ds l h1 _ ih=>exact .fn f vs cap args ms ds l (h1.mono g) ih
 | mark D ms ds l _ ih=>exact .mark D ms ds l ih
structure FR (ρ:Ren) (M:Mem) (ms:List Nat) (fr:Fr) (a:Act):Prop where
 tmps: ∀ (t:Nat) (v:V),fr.t.get t=some v->∃ v',a.tmps[t]? = some v'/\VR ρ M v v'
 size:a.tmps.size=fr.n
 defers:DR ρ M ms fr.d a.defers
variable {ms:List Nat}
theorem FR.mono {ρ':Ren} {M':Mem} (g:CT ρ M ρ' M') {fr:Fr} {a:Act} (h:FR ρ M ms fr a):FR ρ' M' ms fr a :=
 ⟨λt v hv=>let ⟨v',h1,h2⟩:=h.tmps t v hv;⟨v',h1,h2.mono g⟩,h.size,h.defers.mono g⟩
theorem FR.ev {fr:Fr} {a:Act} (h:FR ρ M ms fr a) {x:Operand} {v:V} (hv:fr.ev x=some v):VR ρ M v (a.eval x):=by
 cases x with
 | tmp t =>
  obtain ⟨v',h1,h2⟩:=h.tmps t v hv;have:a.eval (.tmp t)=v':=by simp [Act.eval,Array.getD_eq_getD_getElem?,h1]
  rw [this];exact h2
 | const c=>exact MX hv
 | global g=>cases hv;exact .gptr g 0
 | func f=>cases hv;exact .fn f [] [] .nil
theorem FR.put {fr fr':Fr} {a:Act} (h:FR ρ M ms fr a) {d:Option Nat} {v:V} {v':Value} (hp:fr.put d v=some fr') (hv:VR ρ M v v'):FR ρ M ms fr' (a.put d v'):=by
 cases d with
 | none=>cases hp;exact h
 | some d =>
  unfold Fr.put at hp;simp only at hp;split at hp
  ·rename_i hlt;cases hp;have hd:d<a.tmps.size:=by rw [h.size];exact (Nat.blt_eq).mp hlt
   refine ⟨λt u hu=>?_,by simp [Act.put,h.size],h.defers⟩;rw [PT.get_set] at hu;by_cases ht:t=d
   ·subst ht;rw [if_pos rfl] at hu;cases hu;exact ⟨v',by simp [Act.put,hd],hv⟩
   ·rw [if_neg ht] at hu;obtain ⟨u',h1,h2⟩:=h.tmps t u hu;refine ⟨u',?_,h2⟩;simp only [Act.put,Array.getElem?_setIfInBounds];rw [if_neg (λhe=>ht he.symm)];exact h1
  ·cases hp
def EV (ρ:Ren) (M:Mem) (ev:Operand->Option V) (ev':Operand->Value):Prop:=∀ x v,ev x=some v->VR ρ M v (ev' x)
theorem KR {ev:Operand->Option V} {ev':Operand->Value} (h:EV ρ M ev ev'): ∀ {l:List Operand} {vs:List V},evs ev l=some vs->VRL ρ M vs (l.map ev')
 | [],vs,hv=>by cases hv;exact .nil
 | x :: l,vs,hv=>by
  unfold evs at hv;split at hv
  ·rename_i v us h1 h2;cases hv;exact .cons _ _ _ _ (h _ _ h1) (KR h h2)
  ·cases hv
theorem Ul {ev:Operand->Option V} {ev':Operand->Value} (h:EV ρ M ev ev') {x:Option Operand} {r:Option V} (hr:Ct ev x=some r) :
 (x=none/\r=none)\/∃ o v,x=some o/\r=some v/\VR ρ M v (ev' o):=by
 cases x with
 | none=>cases hr;exact .inl ⟨rfl,rfl⟩
 | some o =>
  unfold Ct at hr;simp only at hr;split at hr
  ·rename_i v hv;cases hr;exact .inr ⟨o,v,rfl,rfl,h _ _ hv⟩
  ·cases hr
variable {E:Env} {w:World}
theorem aW {s:TypeId} {p v:V} {p':Value} {f:Nat} (hl:SS.fieldAt E s p f=some v) (hp:VR ρ M p p') :
 ∃ v',(Instr.fieldAt s p' f).run E.P w=.ok v' w/\VR ρ M v v':=by
 unfold SS.fieldAt at hl;split at hl
 ·rename_i fs hd;split at hl
  ·rename_i fd hf;split at hl
   ·rename_i i hi;split at hl
    ·cases hl
    ·rename_i hz;have hz:i.size≠0:=λh0=>hz (by rw [h0];rfl)
     have hrun: ∀ a:Addr,p'=.pointer (some a)->(Instr.fieldAt s p' f).run E.P w=.ok (.pointer (some (a.add fd.offset))) w:=by
      intro a ha;subst ha;simp only [Instr.fieldAt,Sem.run_bind,BC hd,Result.andThen_ok,hf,Instr.sureAddr,Sem.run_pure,fieldPlace,DJ hi,hz,if_false]
     split at hl
     ·cases hl;cases hp with
      | ptrOld _ _ _ e a h1 h2=>exact ⟨_,hrun _ rfl,.ptrOld _ _ _ e _ h1 h2⟩
      | ptr _ _ e h1=>exact ⟨_,hrun _ rfl,by rw [Cx,Nat.add_assoc];exact .ptr _ _ e h1⟩
     ·cases hl;cases hp with
      | eptr _ _ _ sz b o cs t fr h1 h2 h3=>exact ⟨_,hrun _ rfl,by rw [Cx,Nat.add_assoc];exact .eptr _ _ _ sz b o cs t fr h1 h2 h3⟩
     ·cases hl;cases hp with
      | gptr=>exact ⟨_,hrun _ rfl,by rw [Cx];exact .gptr _ _⟩
     ·cases hl
   ·cases hl
  ·cases hl
 ·cases hl
theorem JW {n:Int} {len i:Nat} (h:Fu n len=some i):n=(i:Int)/\i<len:=by
 unfold Fu at h;split at h
 ·split at h
  ·rename_i hb;cases h;exact ⟨rfl,(Nat.blt_eq).mp hb⟩
  ·cases h
 ·cases h
theorem MF {t elem:TypeId} {inf:TypeInfo} (ht:E.P.underlying t=some (.slice elem)) (hi:E.P.info? elem=some inf) (k:IntKind) {i len cap:Nat} (a:Addr) (hlt:i<len) :
 (Instr.indexAt t (.slice (some a) len cap) (.int k (i:Int))).run E.P w=.ok (.pointer (some (a.add (i*inf.size)))) w:=by
 have h0:(0<=(i:Int))/\(i:Int)<(len:Int):=by omega
 simp only [Instr.indexAt,asIntOf,Sem.run_bind,Sem.run_pure,Result.andThen_ok,BC ht,h0,and_self,if_true,DJ hi,Int.toNat_natCast]
theorem ME {t elem:TypeId} {inf:TypeInfo} {n:Nat} (ht:E.P.underlying t=some (.array n elem)) (hi:E.P.info? elem=some inf) (k:IntKind) {i:Nat} (a:Addr) (hlt:i<n) :
 (Instr.indexAt t (.pointer (some a)) (.int k (i:Int))).run E.P w=.ok (.pointer (some (a.add (i*inf.size)))) w:=by
 have h0:(0<=(i:Int))/\(i:Int)<(n:Int):=by omega
 simp only [Instr.indexAt,asIntOf,Instr.sureAddr,Sem.run_bind,Sem.run_pure,Result.andThen_ok,BC ht,h0,and_self,if_true,DJ hi,Int.toNat_natCast]
theorem d9 {t:TypeId} {x ix v:V} {x' ix':Value} (hl:SS.indexAt E t x ix=some v) (hx:VR ρ M x x') (hix:VR ρ M ix ix') :
 ∃ v',(Instr.indexAt t x' ix').run E.P w=.ok v' w/\VR ρ M v v':=by
 unfold SS.indexAt at hl;split at hl
 ·rename_i elem k n ht;cases hix;split at hl
  ·rename_i xs full inf hi;split at hl
   ·rename_i i hr;obtain ⟨rfl,hlt⟩:=JW hr;split at hl
    ·rename_i y hy;split at hl
     ·rename_i hc;have hc:=Nat.eq_of_beq_eq_true hc;cases hl;cases hx with
      | lst0=>simp at hlt
      | lst z zs f b o cap cs t' fr h1 h2 h3 h4 =>
       refine ⟨_,MF ht hi k _ (by simpa using hlt),?_⟩;obtain ⟨_,_,_,_,h5⟩:=h2.elem hy;have h2':=h2;rw [<-h5,hc] at h2';have:=VR.eptr (ρ:=ρ) (M:=M) (z :: zs) i 0 inf.size b o cs t' fr h1 h2' hlt;rw [Cx];exact this
     ·cases hl
    ·cases hl
   ·cases hl
  ·rename_i b ver off len cap inf hi;split at hl
   ·rename_i i hr;obtain ⟨rfl,hlt⟩:=JW hr;cases hl;cases hx with
    | refOld _ _ _ _ _ e a c' h1 h2 h3 h4=>exact ⟨_,MF ht hi k _ hlt,.ptrOld _ _ _ e _ h1 h2⟩
    | refCap _ _ _ c e h1 h2=>exact ⟨_,MF ht hi k _ hlt,by rw [Cx,Nat.add_assoc];exact .ptr _ _ e h1⟩
    | ref _ _ _ c e h1 h2 h3=>exact ⟨_,MF ht hi k _ hlt,by rw [Cx,Nat.add_assoc];exact .ptr _ _ e h1⟩
    | refEnd=>omega
   ·cases hl
  ·cases hl
 ·rename_i n elem k m ht;cases hix;split at hl
  ·rename_i b ver off inf i hi hr;obtain ⟨rfl,hlt⟩:=JW hr;cases hl;cases hx with
   | ptrOld _ _ _ e a h1 h2=>exact ⟨_,ME ht hi k _ hlt,.ptrOld _ _ _ e _ h1 h2⟩
   | ptr _ _ e h1=>exact ⟨_,ME ht hi k _ hlt,by rw [Cx,Nat.add_assoc];exact .ptr _ _ e h1⟩
  ·rename_i xs k' j inf i hi hr;obtain ⟨rfl,hlt⟩:=JW hr;cases hl;cases hx with
   | eptr _ _ _ sz b o cs t' fr h1 h2 h3=>exact ⟨_,ME ht hi k _ hlt,by rw [Cx,Nat.add_assoc];exact .eptr _ _ _ sz b o cs t' fr h1 h2 h3⟩
  ·rename_i g off inf i hi hr;obtain ⟨rfl,hlt⟩:=JW hr;cases hl;cases hx with
   | gptr=>exact ⟨_,ME ht hi k _ hlt,by rw [Cx];exact .gptr _ _⟩
  ·cases hl
 ·cases hl
theorem aY {s:TypeId} {x v:V} {x':Value} {f:Nat} (hl:E4 E s x f=some v) (hx:VR ρ M x x') :
 ∃ v',(Instr.field s x' f).run E.P w=.ok v' w/\VR ρ M v v':=by
 unfold E4 at hl;split at hl
 ·rename_i fs cs hd;split at hl
  ·rename_i fd hf;cases hx with
   | agg _ cs' h =>
    obtain ⟨v',h1,h2⟩:=Uq (cs':=cs'.toArray) hl (by simpa using h) w;refine ⟨v',?_,h2⟩;simp only [Instr.field,asAgg,Sem.run_bind,BC hd,Result.andThen_ok,hf,Sem.run_pure,h1]
  ·cases hl
 ·cases hl
theorem uT (s:List UInt8) (k:Nat):(⟨s.toArray⟩:ByteArray)[k]? = s[k]? := by
 by_cases h:k<s.length
 ·have h':k<(⟨s.toArray⟩:ByteArray).size:=by simpa [ByteArray.size] using h
  rw [getElem?_pos (⟨s.toArray⟩:ByteArray) k h',List.getElem?_eq_getElem h];rfl
 ·have h':¬k<(⟨s.toArray⟩:ByteArray).size:=by simpa [ByteArray.size] using h
  rw [getElem?_neg (⟨s.toArray⟩:ByteArray) k h',List.getElem?_eq_none (by omega)]
theorem eD {t:TypeId} {x ix v:V} {x' ix':Value} (hl:Cn E t x ix=some v) (hx:VR ρ M x x') (hix:VR ρ M ix ix') :
 ∃ v',(Instr.index t x' ix').run E.P w=.ok v' w/\VR ρ M v v':=by
 unfold Cn at hl;split at hl
 ·rename_i n elem cs k m hd;cases hix;split at hl
  ·rename_i inf i hi hr;obtain ⟨rfl,hlt⟩:=JW hr;cases hx with
   | agg _ cs' h =>
    obtain ⟨v',h1,h2⟩:=Uq (cs':=cs'.toArray) hl (by simpa using h) w;refine ⟨v',?_,h2⟩;have h0:(0<=(i:Int))/\(i:Int)<(n:Int):=by omega
    simp only [Instr.index,asIntOf,Sem.run_bind,Sem.run_pure,BC hd,Result.andThen_ok,h0,and_self,if_true,DJ hi,Int.toNat_natCast,h1]
  ·cases hl
 ·rename_i s k m hd;cases hix;cases hx;split at hl
  ·rename_i i;split at hl
   ·rename_i b hb;cases hl;refine ⟨_,?_,.int _ _⟩;have h0:(0:Int)<=(i:Int):=by omega
    simp only [Instr.index,asIntOf,Sem.run_bind,Sem.run_pure,BC hd,Result.andThen_ok,h0,if_true,Int.toNat_natCast,Int.ofNat_eq_natCast,uT,hb]
   ·cases hl
  ·cases hl
 ·cases hl
end
section
variable {ρ:Ren} {M:Mem} {E:Env} {w:World}
inductive OV (ρ:Ren) (M:Mem):Option V->Option Value->Prop
 | none:OV ρ M none none
 | some (v:V) (v':Value):VR ρ M v v'->OV ρ M (some v) (some v')
theorem Po {ev:Operand->Option V} {ev':Operand->Value} (h:EV ρ M ev ev') {x:Option Operand} {r:Option V} (hr:Ct ev x=some r):OV ρ M r (x.map ev'):=by
 rcases Ul h hr with ⟨rfl,rfl⟩ | ⟨o,v,rfl,rfl,hv⟩
 ·exact .none
 ·exact .some _ _ hv
theorem Jr {P:Program} {d:Nat} {x:V} {x':Value} {l y:Nat} (c:BoundsCode) (hb:CL d (some x)=some l) (hx:VR ρ M x x') (hle:l<=y) :
 (Instr.sliceBound x' y c).run P w=.ok l w:=by
 unfold CL at hb;split at hb
 ·rename_i h;cases h
 ·rename_i k n h;cases hb;cases h;cases hx;have h0:(0:Int)<=(l:Int)/\(l:Int)<=(y:Int):=by omega
  simp only [Instr.sliceBound,asIntOf,Sem.run_bind,Sem.run_pure,Result.andThen_ok,Int.ofNat_eq_natCast,h0,and_self,if_true,Int.toNat_natCast]
 ·cases hb
theorem E9 {P:Program} (isSlice:Bool) {len cap l h m:Nat} {lo hi mx:Option V} {lo' hi' mx':Option Value} (hlo:OV ρ M lo lo') (hhi:OV ρ M hi hi') (hmx:OV ρ M mx mx')
 (bl:CL 0 lo=some l) (bh:CL len hi=some h) (bm:(mx=none/\m=cap)\/(mx.isSome=true/\∃ d,CL d mx=some m)) (h1:l<=h) (h2:h<=m) (h3:m<=cap)
 (hs:(hi.isSome||mx.isNone)=true):(Instr.sliceBounds isSlice len cap lo' hi' mx').run P w=.ok (l,h,m) w:=by
 cases hmx with
 | none =>
  have hm:m=cap:=by rcases bm with ⟨_,h⟩ | ⟨h,_⟩;exact h;simp at h
  subst hm;cases hhi with
  | none =>
   cases bh;cases hlo with
   | none=>cases bl;simp [Instr.sliceBounds]
   | some v v' hv =>
    have:=Jr (w:=w) (P:=P) (y:=len) .sliceB bl hv h1;simp [Instr.sliceBounds,this]
  | some u u' hu =>
   have hu1:=λc=>Jr (w:=w) (P:=P) (y:=m) c bh hu h2
   cases hlo with
   | none=>cases bl;simp [Instr.sliceBounds,hu1]
   | some v v' hv =>
    have:=Jr (w:=w) (P:=P) (y:=h) .sliceB bl hv h1;simp [Instr.sliceBounds,this,hu1]
 | some z z' hz =>
  obtain ⟨d,hm⟩: ∃ d,CL d (some z)=some m:=by rcases bm with ⟨h,_⟩ | ⟨_,h⟩;cases h;exact h
  have hz1:=λc=>Jr (w:=w) (P:=P) (y:=cap) c hm hz h3
  cases hhi with
  | none=>simp at hs
  | some u u' hu =>
   have hu1:=λc=>Jr (w:=w) (P:=P) (y:=m) c bh hu h2
   cases hlo with
   | none=>cases bl;simp [Instr.sliceBounds,hu1,hz1]
   | some v v' hv =>
    have:=λc=>Jr (w:=w) (P:=P) (y:=h) c bl hv h1
    simp [Instr.sliceBounds,this,hu1,hz1]
theorem Sy (s:List UInt8) (l h:Nat):(⟨s.toArray⟩:ByteArray).extract l h=⟨((s.drop l).take (h - l)).toArray⟩:=by
 apply ByteArray.ext;rw [ByteArray.data_extract];simp [List.take_drop]
theorem GH {P:Program} {t elem:TypeId} {inf:TypeInfo} (ht:P.underlying t=some (.slice elem)) (hi:P.info? elem=some inf) {a:Option Addr} {len cap l h m:Nat} {lo' hi' mx':Option Value}
 (hb:(Instr.sliceBounds true len cap lo' hi' mx').run P w=.ok (l,h,m) w) :
 (Instr.sliceAt t (.slice a len cap) lo' hi' mx').run P w=.ok (.slice (if m=l then a else a.map (·.add (l*inf.size))) (h - l) (m - l)) w:=by
 simp only [Instr.sliceAt,Instr.slice,Sem.run_bind,BC ht,Result.andThen_ok,hb,DJ hi,Sem.run_pure]
theorem Z7 {α:Type} (a l:List α) (sz n:Nat) (h:a.length=sz):(a++l).drop ((n+1)*sz)=l.drop (n*sz):=by
 have e1:(n+1)*sz=a.length+n*sz:=by rw [Nat.succ_mul];omega
 rw [e1,List.drop_append,List.drop_of_length_le (by omega),List.nil_append,Nat.add_sub_cancel_left]
theorem Bz.drop {sz:Nat} {xs:List V} {l:List Value} (h:Bz ρ M sz xs l) (n:Nat) (hn:n<=xs.length):Bz ρ M sz (xs.drop n) (l.drop (n*sz)):=by
 induction n generalizing xs l with
 | zero=>simpa using h
 | succ n ih =>
  cases h with
  | nil=>simp at hn
  | cons _ x xs cs l h1 h2 h3 =>
   have hl:=h1.length;rw [Z7 cs l sz n (by omega),List.drop_succ_cons];exact ih h3 (by simpa using hn)
theorem Bz.take {sz:Nat} {xs:List V} {l:List Value} (h:Bz ρ M sz xs l) (n:Nat):Bz ρ M sz (xs.take n) l:=by
 induction n generalizing xs l with
 | zero=>exact .nil _ _
 | succ n ih =>
  cases h with
  | nil=>exact .nil _ _
  | cons _ x xs cs l h1 h2 h3=>exact .cons _ _ _ _ _ h1 h2 (ih h3)
theorem VR.zAm {sz:Nat} {xs:List V} {full:Bool} {b o cap:Nat} {cs:Array Value} {t:TypeId} {fr:Nat×Nat} (h1:M b=some (.cells cs t fr)) (h2:Bz ρ M sz xs (cs.toList.drop o)) (hc:xs.length<=cap)
 (hf:full=true->cap=xs.length):VR ρ M (.lst xs full) (.slice (some ⟨b,o,none⟩) xs.length cap):=by
 cases xs with
 | nil=>exact .lst0 _ _ _ (λh=>by simpa using hf h)
 | cons x xs =>
  have:x.cells.length=sz:=by
   generalize cs.toList.drop o=l at h2;cases h2;assumption
  rw [<-this] at h2;exact .lst x xs full b o cap cs t fr h1 h2 (by simpa using hc) (λh=>by simpa using hf h)
theorem Oz {elem:TypeId} {xs:List V} (h:GY E elem xs=true): ∃ inf,E.P.info? elem=some inf:=by
 unfold GY at h;split at h
 ·rename_i h1;exact ⟨_,h1⟩
 ·rename_i h1;exact ⟨_,h1⟩
 ·cases h
theorem bJ {elem:TypeId} {inf:TypeInfo} {x:V} {xs:List V} (hi:E.P.info? elem=some inf) (h:GY E elem (x :: xs)=true):x.cells.length=inf.size:=by
 unfold GY at h;rw [hi] at h;exact Nat.eq_of_beq_eq_true h
theorem N0 {σ:St} {b ver off elem sz c:Nat} (h:JF σ b ver off elem sz=some c) :
 ∃ cs fz,σ.get b=some (.blk cs elem ver fz)/\0<sz/\off<=cs.length/\True/\c=(cs.length - off) / sz:=by
 unfold JF at h;split at h
 ·rename_i cs ty ver' fz hb;split at h
  ·rename_i hc;simp only [Bool.and_eq_true] at hc;cases h;have e1:=Nat.eq_of_beq_eq_true hc.1.1.1;have e2:=Nat.eq_of_beq_eq_true hc.1.1.2;subst e1;subst e2;exact ⟨cs,fz,hb,(Nat.blt_eq).mp hc.1.2,Nat.le_of_ble_eq_true hc.2,trivial,rfl⟩
  ·cases h
 ·cases h
theorem KJ {P:Program} {t:TypeId} {i:TypeInfo} (h:P.info? t=some i):P.cellsOf t=i.size:=by
 simp [Program.cellsOf,h]
theorem sZ {σ:St} {t:TypeId} {x v:V} {x':Value} {lo hi mx:Option V} {lo' hi' mx':Option Value} (hl:SS.sliceAt E t x lo hi mx σ=some v) (hsr:SR E.P ρ M σ w)
 (hx:VR ρ M x x') (hlo:OV ρ M lo lo') (hhi:OV ρ M hi hi') (hmx:OV ρ M mx mx') :
 ∃ v',(Instr.sliceAt t x' lo' hi' mx').run E.P w=.ok v' w/\VR ρ M v v':=by
 unfold SS.sliceAt at hl;split at hl
 ·
  rename_i s ht;cases hx;split at hl
  ·rename_i l h bl bh;split at hl
   ·rename_i hc;simp only [Bool.and_eq_true] at hc;have h1:=Nat.le_of_ble_eq_true hc.1;have h2:=Nat.le_of_ble_eq_true hc.2;cases hl;cases hmx;refine ⟨_,?_,.str _⟩;have hsz:(⟨s.toArray⟩:ByteArray).size=s.length:=by simp [ByteArray.size]
    have:=E9 (w:=w) (P:=E.P) false (len:=s.length) (cap:=s.length) (m:=s.length) hlo hhi .none bl bh (.inl ⟨rfl,rfl⟩) h1 h2 (Nat.le_refl _) (by simp);simp only [Instr.sliceAt,Instr.slice,Sem.run_bind,BC ht,Result.andThen_ok,hsz,this,Sem.run_pure,Sy,Option.isSome_none,Bool.false_eq_true,if_false]
   ·cases hl
  ·cases hl
 ·
  rename_i elem ht;cases hx;split at hl
  ·rename_i bl bh bm;split at hl
   ·rename_i hc;simp only [Bool.and_eq_true] at hc;obtain ⟨inf,hi'⟩:=Oz hc.1;cases hl;have bm':(mx=none/\(0:Nat)=0)\/(mx.isSome=true/\∃ d,CL d mx=some 0):=by
     cases mx with
     | none=>exact .inl ⟨rfl,rfl⟩
     | some z=>exact .inr ⟨rfl,_,bm⟩
    have hb:=E9 (w:=w) (P:=E.P) true (len:=0) (cap:=0) (m:=0) hlo hhi hmx bl bh bm' (Nat.le_refl _) (Nat.le_refl _) (Nat.le_refl _) hc.2;exact ⟨_,GH ht hi' hb,by simpa using VR.nilS⟩
   ·cases hl
  ·cases hl
 ·
  rename_i elem ht;cases hx with
  | emp a cap hcap0 =>
  split at hl
  ·rename_i bl bh;split at hl
   ·rename_i hc;obtain ⟨inf,hi'⟩:=Oz hc;cases hl;have hb:=E9 (w:=w) (P:=E.P) true (len:=0) (cap:=cap) (m:=cap) hlo hhi hmx bl bh (.inl ⟨rfl,rfl⟩) (Nat.le_refl _) (Nat.zero_le _) (Nat.le_refl _) (by simp);exact ⟨_,GH ht hi' hb,VR.emp _ _ (λhn=>by
     cases a with
     | none=>have:=hcap0 rfl;omega
     | some a=>split at hn<;>cases hn)⟩
   ·cases hl
  ·cases hl
 ·
  rename_i elem xs full ht;split at hl
  ·rename_i l h m bl bh bm;split at hl
   ·rename_i hc;simp only [Bool.and_eq_true] at hc;obtain ⟨⟨⟨⟨c1,c2⟩,c3⟩,c4⟩,c5⟩:=hc;have h1:=Nat.le_of_ble_eq_true c1;have h2:=Nat.le_of_ble_eq_true c2;have h3:=Nat.le_of_ble_eq_true c3;obtain ⟨inf,hi'⟩:=Oz c4;cases hl;cases hx with
    | lst0 _ a cap hf =>
     simp only [List.length_nil] at h3 bh bm;have:m=0:=by omega
     subst this;have:h=0:=by omega
     subst this;have:l=0:=by omega
     subst this;cases mx with
     | none =>
      cases hmx;have hb:=E9 (w:=w) (P:=E.P) true (len:=0) (cap:=cap) (m:=cap) hlo hhi .none bl bh (.inl ⟨rfl,rfl⟩) (Nat.le_refl _) (Nat.zero_le _) (Nat.le_refl _) (by simp);refine ⟨_,GH ht hi' hb,?_⟩;simp only [List.drop_nil,List.take_nil,Nat.zero_mul,Option.map_some,Nat.sub_zero]
      split
      ·exact .lst0 _ _ _ (λh=>by simp at h;exact hf h)
      ·exact .lst0 _ _ _ (λh=>by simp at h;exact hf h)
     | some z =>
      have hb:=E9 (w:=w) (P:=E.P) true (len:=0) (cap:=cap) (m:=0) hlo hhi hmx bl bh (.inr ⟨rfl,_,bm⟩) (Nat.le_refl _) (Nat.le_refl _) (Nat.zero_le _) c5;refine ⟨_,GH ht hi' hb,?_⟩;simp only [List.drop_nil,List.take_nil,if_true,Nat.sub_zero];exact .lst0 _ _ _ (λ_=>rfl)
    | lst y ys _ b o cap cs t' fr g1 g2 g3 g4 =>
     have hsz:y.cells.length=inf.size:=by
      have:=bJ hi' c4;exact this
     rw [hsz] at g2;have hlen:(y :: ys).length<=cap:=g3;cases mx with
     | none =>
      cases hmx;cases bm;have hb:=E9 (w:=w) (P:=E.P) true (len:=ys.length+1) (cap:=cap) (m:=cap) hlo hhi .none bl bh (.inl ⟨rfl,rfl⟩) h1 (by simp only [List.length_cons] at h2;omega) (Nat.le_refl _) (by simp);refine ⟨_,GH ht hi' hb,?_⟩;have hlx:(((y :: ys).drop l).take (h - l)).length=h - l:=by simp only [List.length_take,List.length_drop];omega
      by_cases hml:cap=l
      ·have:h=l:=by simp only [List.length_cons] at h2;omega
       subst this;rw [if_pos hml];simp only [Nat.sub_self,List.take_zero];exact .lst0 _ _ _ (λ_=>by omega)
      ·rw [if_neg hml];have:=VR.zAm (ρ:=ρ) (full:=Nat.beq h (y :: ys).length&&(full||Option.isSome (none:Option V))) (o:=o+l*inf.size) (cap:=cap - l) g1 (by
        have:=(g2.drop l (by omega)).take (h - l)
        rwa [List.drop_drop] at this) (by rw [hlx];simp only [List.length_cons] at h2;omega) (λhf=>by
         simp only [Bool.and_eq_true,Option.isSome_none,Bool.or_false] at hf;have:=Nat.eq_of_beq_eq_true hf.1;have:=g4 hf.2;rw [hlx];simp only [List.length_cons] at *;omega)
       rw [hlx] at this;simpa [Cx] using this
     | some z =>
      have hb:=E9 (w:=w) (P:=E.P) true (len:=ys.length+1) (cap:=cap) (m:=m) hlo hhi hmx bl bh (.inr ⟨rfl,_,bm⟩) h1 h2 (by omega) c5;refine ⟨_,GH ht hi' hb,?_⟩;have hlx:(((y :: ys).drop l).take (h - l)).length=h - l:=by simp only [List.length_take,List.length_drop];omega
      by_cases hml:m=l
      ·have:h=l:=by omega
       subst this;rw [if_pos hml];simp only [Nat.sub_self,List.take_zero];exact .lst0 _ _ _ (λ_=>by omega)
      ·rw [if_neg hml];have:=VR.zAm (ρ:=ρ) (full:=Nat.beq h m&&(full||Option.isSome (some z))) (o:=o+l*inf.size) (cap:=m - l) g1 (by
        have:=(g2.drop l (by omega)).take (h - l)
        rwa [List.drop_drop] at this) (by rw [hlx];omega) (λhf=>by
         simp only [Bool.and_eq_true] at hf;have:=Nat.eq_of_beq_eq_true hf.1;rw [hlx];omega)
       rw [hlx] at this;simpa [Cx] using this
   ·cases hl
  ·cases hl
 ·
  rename_i elem b ver off len cap ht;split at hl
  ·rename_i inf hinf;split at hl
   ·rename_i c l h hcap bl bh;split at hl
    ·rename_i m bm;split at hl
     ·rename_i hc;simp only [Bool.and_eq_true] at hc;obtain ⟨⟨⟨c1,c2⟩,c3⟩,c5⟩:=hc;have h1:=Nat.le_of_ble_eq_true c1;have h2:=Nat.le_of_ble_eq_true c2;have h3:=Nat.le_of_ble_eq_true c3;cases hmx with
      | some z z' hz =>
       simp only [Option.isSome_some,Bool.or_true,if_true] at hl
       have key: ∀ (a:Addr) (cap':Nat),x'=.slice (some a) len cap'->c<=cap'->(l<m->VR ρ M (.ref b ver (off+l*inf.size) (h - l) (some (m - l))) (.slice (some (a.add (l*inf.size))) (h - l) (m - l))) ->
        ∃ v',(Instr.sliceAt t x' lo' hi' (some z')).run E.P w=.ok v' w/\VR ρ M v v':=by
        intro a cap' hx' hcc hv;subst hx';have hb:=E9 (w:=w) (P:=E.P) true (len:=len) (cap:=cap') (m:=m) hlo hhi (.some _ _ hz) bl bh (.inr ⟨rfl,_,bm⟩) h1 h2 (by omega) c5;refine ⟨_,GH ht hinf hb,?_⟩;by_cases hml:m=l
        ·have hz0:Nat.beq (m - l) 0=true:=by rw [hml,Nat.sub_self];rfl
         rw [if_pos hz0] at hl;cases hl;have:h=l:=by omega
         subst this;rw [if_pos hml,hml];simp only [Nat.sub_self];exact .lst0 _ _ _ (λ_=>rfl)
        ·have hz0:Nat.beq (m - l) 0=false:=by
          cases hb:Nat.beq (m - l) 0 with
          | false=>rfl
          | true=>have:=Nat.eq_of_beq_eq_true hb;omega
         rw [hz0] at hl;simp only [Bool.false_eq_true,if_false] at hl;cases hl;rw [if_neg hml];exact hv (by omega)
       cases hx with
       | refOld _ _ _ _ _ e a cap' g1 g2 g3 g4 =>
        have hcc:c<=cap':=by
         cases cap with
         | some c'=>cases hcap;rw [g4 _ rfl];exact Nat.le_refl _
         | none =>
          simp only [JF] at hcap;split at hcap
          ·rename_i cs ty ver' fz hb;split at hcap
           ·rename_i hcc;simp only [Bool.and_eq_true] at hcc;have:=Nat.eq_of_beq_eq_true hcc.1.1.1;exact absurd (CV hsr g1 hb).1 (by omega)
           ·cases hcap
          ·cases hcap
        exact key a cap' rfl hcc (λ_=>.refOld _ _ _ _ _ e _ _ g1 g2 (by omega) (λ_ h=>by cases h;rfl))
       | refCap _ _ _ c' e g1 g2 =>
        cases hcap;exact key _ _ rfl (Nat.le_refl _) (λ_=>by rw [Cx,Nat.add_assoc];exact .refCap _ _ _ _ e g1 (by omega))
       | ref _ _ _ cap' e g1 g2 g3 =>
        have hcc:c<=cap':=by
         obtain ⟨cs,fz,hb,_,q1,q2,q3⟩:=N0 hcap;obtain ⟨_,_,hsz,cs',fr,_,hs',hle,_⟩:=CV hsr g1 hb;have hcell:E.P.cellsOf elem=inf.size:=KJ hinf;rw [q3];refine Nat.div_le_of_le_mul ?_;rw [hsz,hcell] at g3;rw [Nat.mul_comm];omega
        exact key _ _ rfl hcc (λ_=>by rw [Cx,Nat.add_assoc];exact .refCap _ _ _ _ e g1 (by omega))
       | refEnd _ _ a e g1 g2 =>
        have hc0:c=0:=by
         obtain ⟨cs,fz,hb,_,q1,q2,q3⟩:=N0 hcap;obtain ⟨_,_,_,cs',fr,_,hs',hle,_⟩:=CV hsr g1 hb;rw [q3,show cs.length - off=0 by omega,Nat.zero_div]
        exact key a 0 rfl (by omega) (λ_=>by omega)
      | none =>
       have hm:m=c:=by cases bm;rfl
       subst hm;cases cap with
       | some c' =>
        cases hcap;simp only [Option.isSome_some,Bool.true_or,if_true] at hl
        have key: ∀ (a:Addr),x'=.slice (some a) len m->(l<m->VR ρ M (.ref b ver (off+l*inf.size) (h - l) (some (m - l))) (.slice (some (a.add (l*inf.size))) (h - l) (m - l))) ->
         ∃ v',(Instr.sliceAt t x' lo' hi' none).run E.P w=.ok v' w/\VR ρ M v v':=by
         intro a hx' hv;subst hx';have hb:=E9 (w:=w) (P:=E.P) true (len:=len) (cap:=m) (m:=m) hlo hhi .none bl bh (.inl ⟨rfl,rfl⟩) h1 h2 (Nat.le_refl _) (by simp);refine ⟨_,GH ht hinf hb,?_⟩;by_cases hml:m=l
         ·have hz0:Nat.beq (m - l) 0=true:=by rw [hml,Nat.sub_self];rfl
          rw [if_pos hz0] at hl;cases hl;have:h=l:=by omega
          subst this;rw [if_pos hml,hml];simp only [Nat.sub_self];exact .lst0 _ _ _ (λ_=>rfl)
         ·have hz0:Nat.beq (m - l) 0=false:=by
           cases hb:Nat.beq (m - l) 0 with
           | false=>rfl
           | true=>have:=Nat.eq_of_beq_eq_true hb;omega
          rw [hz0] at hl;simp only [Bool.false_eq_true,if_false] at hl;cases hl;rw [if_neg hml];exact hv (by omega)
        cases hx with
        | refOld _ _ _ _ _ e a cap' g1 g2 g3 g4 =>
         have:=g4 _ rfl;subst this;exact key a rfl (λ_=>.refOld _ _ _ _ _ e _ _ g1 g2 (by omega) (λ_ h=>by cases h;rfl))
        | refCap _ _ _ c' e g1 g2=>exact key _ rfl (λ_=>by rw [Cx,Nat.add_assoc];exact .refCap _ _ _ _ e g1 (by omega))
       | none =>
        simp only [Option.isSome_none,Bool.or_self,Bool.false_eq_true,if_false] at hl;cases hl;obtain ⟨cs,fz,hb,q0,q1,q2,q3⟩:=N0 hcap;have hcell:E.P.cellsOf elem=inf.size:=KJ hinf;cases hx with
        | refOld _ _ _ _ _ e a cap' g1 g2 g3 g4=>exact absurd (CV hsr g1 hb).1 (by omega)
        | ref _ _ _ cap' e g1 g2 g3 =>
         obtain ⟨_,_,hsz,cs',fr,_,hs',hle,_⟩:=CV hsr g1 hb;have hcc:m<=cap':=by
          rw [q3];refine Nat.div_le_of_le_mul ?_;rw [hsz,hcell] at g3;rw [Nat.mul_comm];omega
         have hbb:=E9 (w:=w) (P:=E.P) true (len:=len) (cap:=cap') (m:=cap') hlo hhi .none bl bh (.inl ⟨rfl,rfl⟩) h1 (by omega) (Nat.le_refl _) (by simp);refine ⟨_,GH ht hinf hbb,?_⟩;by_cases hml:cap'=l
         ·have:h=l:=by omega
          subst this;rw [if_pos hml,hml];simp only [Nat.sub_self];refine .refEnd _ _ _ e g1 ?_;rw [hsz,hcell] at g3;rw [<-hml];omega
         ·rw [if_neg hml];simp only [Option.map_some,Cx];rw [Nat.add_assoc];refine .ref _ _ _ _ e g1 (by omega) ?_;have hmul:l*e.sz+(cap' - l)*e.sz=cap'*e.sz:=by rw [<-Nat.add_mul];congr 1;omega
          have hszz:e.sz=inf.size:=hsz.trans hcell;rw [<-hszz];omega
        | refEnd _ _ a e g1 g2 =>
         obtain ⟨_,_,hsz,cs',fr,_,hs',hle,_⟩:=CV hsr g1 hb;have hm0:m=0:=by rw [q3,show cs.length - off=0 by omega,Nat.zero_div]
         have hl0:l=0:=by omega
         have hh0:h=0:=by omega
         subst hl0;subst hh0;have hbb:=E9 (w:=w) (P:=E.P) true (len:=0) (cap:=0) (m:=0) hlo hhi .none bl bh (.inl ⟨rfl,rfl⟩) h1 (Nat.le_refl _) (Nat.le_refl _) (by simp);refine ⟨_,GH ht hinf hbb,?_⟩;simp only [if_true,Nat.sub_self,Nat.zero_mul,Nat.add_zero];exact .refEnd _ _ _ e g1 g2
     ·cases hl
    ·cases hl
   ·cases hl
  ·cases hl
 ·
  rename_i n elem b ver off ht;split at hl
  ·rename_i inf hinf;split at hl
   ·rename_i l h m bl bh bm;split at hl
    ·rename_i hc;simp only [Bool.and_eq_true] at hc;obtain ⟨⟨⟨⟨c1,c2⟩,c3⟩,c4⟩,c5⟩:=hc;have h1:=Nat.le_of_ble_eq_true c1;have h2:=Nat.le_of_ble_eq_true c2;have h3:=Nat.le_of_ble_eq_true c3;have h4:l<m:=(Nat.blt_eq).mp c4;cases hl;have key: ∀ a:Addr,x'=.pointer (some a)->(Instr.sliceAt t x' lo' hi' mx').run E.P w=.ok (.slice (some (a.add (l*inf.size))) (h - l) (m - l)) w:=by
      intro a ha;subst ha;have hb:=E9 (w:=w) (P:=E.P) false (len:=n) (cap:=n) (m:=m) hlo hhi hmx bl bh (by
       cases mx with
       | none=>exact .inl ⟨rfl,by cases bm;rfl⟩
       | some z=>exact .inr ⟨rfl,_,bm⟩) h1 h2 h3 c5
      simp only [Instr.sliceAt,Sem.run_bind,BC ht,Result.andThen_ok,Instr.sureAddr,Sem.run_pure,hb,DJ hinf];rw [if_neg (show ¬m=l by omega)]
     cases hx with
     | ptrOld _ _ _ e a g1 g2=>exact ⟨_,key a rfl,.refOld b ver _ (h - l) (some (m - l)) e _ (m - l) g1 g2 (by omega) (λ_ h=>by cases h;rfl)⟩
     | ptr _ _ e g1=>exact ⟨_,key _ rfl,by rw [Cx,Nat.add_assoc];exact .refCap _ _ _ _ e g1 (by omega)⟩
    ·cases hl
   ·cases hl
  ·cases hl
 ·cases hl
end
end SS
