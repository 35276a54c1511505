/-
  part 7 of the proof; no condition.
-/
import Derived.Test.YtglndmmlghpdpaaGreatDoorPF
import Derived.Lib.LaidTab
import Derived.Lib.LaidU8
import Derived.HandedShaped
import Derived.Handed
import Derived.Shelf.Vars
namespace SS
open Go
section
variable {R:Type} {fr:SF} {F:Fr} {r:R} {E:Env} {σ:St} {call:Call} {pu:FuncId->Bool} {N:Nat} {all:List Oper} {g:Option (Nat×Bool)} {gt:Option Nat}
theorem dG {a b:Option (Nat×Bool)} (h:Cz a b=true):a=b:=by
 unfold Cz at h;split at h
 ·rfl
 ·simp only [Bool.and_eq_true] at h;rw [Nat.eq_of_beq_eq_true h.1,eq_of_beq h.2]
 ·cases h
def Dj (all:List Oper) (g:Option (Nat×Bool)) (gt:Option Nat) (F:Fr):Prop :=
 match g with
 | none=>True
 | some (j,w)=>∃ q c,all[j]? = some q/\q.dst=some c/\gt=some c/\F.t.get c=some (.bool w)
theorem Hz (hg:Dj all g gt F) {o:Oper} (h:Cz g o.guard=true):Ch all o F=some true:=by
 have:=dG h;unfold Ch;rw [<-this];cases g with
 | none=>rfl
 | some p =>
  obtain ⟨j,w⟩:=p;obtain ⟨q,c,h1,h2,_,h3⟩:=hg;simp only [h1,h2,h3];cases w<;>rfl
theorem Lc {a b:Nat} (h:Nat.blt a b=true):a<b:=Nat.blt_eq.mp h
theorem Jm {d:Nat} {v:V} (hN:F.n=N) (h:Nat.blt d N=true):F.put (some d) v=some { F with t:=F.t.set d v }:=by
 unfold Fr.put;simp only [hN,h,if_true]
theorem Mc {a b:Nat} (h:EZ (some a) (some b)=true):a≠b:=by
 unfold EZ at h;simp only [Bool.not_eq_true'] at h;intro e;subst e;rw [Nat.beq_refl] at h;cases h
def JB (os:List Oper) (F F':Fr):Prop:=∀ t,(∀ o∈os,o.dst≠some t)->F'.t.get t=F.t.get t
structure Cd (all:List Oper) (N:Nat) (g:Option (Nat×Bool)) (gt:Option Nat) (os:List Oper) (F F':Fr):Prop where
 n:F'.n=N
 d:F'.d=F.d
 g:Dj all g gt F'
 same:JB os F F'
theorem JV (hg:Dj all g gt F) {d:Nat} {v:V} (h:EZ gt (some d)=true):Dj all g gt { F with t:=F.t.set d v }:=by
 cases g with
 | none=>trivial
 | some p =>
  obtain ⟨j,w⟩:=p;obtain ⟨q,c,h1,h2,h3,h4⟩:=hg;subst h3;refine ⟨q,c,h1,h2,rfl,?_⟩;simp only [PT.get_set];rw [if_neg (Mc h)];exact h4
theorem L6 (hf:Av fr F) {d:Nat} {tv:TV} (h:tv.ok):Av (fr.setR d tv) { F with t:=F.t.set d tv.toV }:=⟨λt u hu=>by
 rw [PT.zAu,PT.get_set] at hu;simp only [PT.get_set];split at hu
 ·rename_i e;cases hu;rw [if_pos e];exact ⟨rfl,h⟩
 ·rename_i e;rw [if_neg e];exact hf.get t u hu⟩
theorem L5 (hf:Av fr F) {d:Nat} {v:V} (h:(fr.getF d).isNone=true):Av fr { F with t:=F.t.set d v }:=⟨λt u hu=>by
 simp only [PT.get_set]
 split
 ·rename_i e;subst e;rw [PT.getF_eq,hu] at h;cases h
 ·exact hf.get t u hu⟩
theorem Hm {d:Option Nat} {tv:TV} {K:SF->St->Option R} (h:EN N gt d fr tv σ K=some r) (hf:Av fr F) (hN:F.n=N) (hg:Dj all g gt F) (ho:tv.ok) {o:Oper} (hd:o.dst=d) :
 ∃ fr' F',F.put d tv.toV=some F'/\Av fr' F'/\Cd all N g gt [o] F F'/\K fr' σ=some r:=by
 unfold EN at h;split at h
 ·rename_i d;cases hc:(Nat.blt d N&&EZ gt (some d)) with
  | false=>rw [hc] at h;cases h
  | true =>
   rw [hc] at h;simp only [Bool.and_eq_true] at hc;refine ⟨_,_,Jm hN hc.1,L6 hf ho,⟨hN,rfl,JV hg hc.2,λt ht=>?_⟩,h⟩;simp only [PT.get_set];rw [if_neg];intro e;subst e;exact ht o (List.mem_singleton.2 rfl) hd
 ·exact ⟨fr,F,rfl,hf,⟨hN,rfl,hg,λt _=>rfl⟩,h⟩
theorem Gt {o:Oper} {v:V} {σ':St} {F':Fr} (hw:Ch all o F=some true) (h:(∃ c,o.op=.call c/\IQ E call F c σ=some (v,σ'))\/((∀ c,o.op≠.call c)/\(∀ c,o.op≠.defer c)/\Aq E F.ev o.op σ=some (v,σ'))) (hp:F.put o.dst v=some F') :
 CR E call all o F σ=some (F',σ'):=by
 unfold CR;rw [hw];simp only;unfold Fl;rcases h with ⟨c,hc,h⟩ | ⟨h1,h2,h⟩
 ·rw [hc];simp only;unfold IQ at h;split at h
  ·rename_i vs hvs;simp only [hvs];cases hcc:c.callee with
   | builtin b =>
    rw [hcc] at h;simp only at h ⊢;rw [h];simp only [hp]
   | value f =>
    rw [hcc] at h;simp only at h ⊢;split at h
    ·rename_i g cap hg;simp only [hg,h,hp]
    ·cases h
   | invoke a b=>rw [hcc] at h;cases h
  ·cases h
 ·cases ho:o.op with
  | call c=>exact absurd ho (h1 c)
  | defer c=>exact absurd ho (h2 c)
  | _=>rw [ho] at h;simp only [h,hp]
theorem Pk (hp:Dk pu call) {o:Oper} {K:SF->St->Option R} (h:Cs E call pu N gt o fr σ K=some r) (hf:Av fr F) (hN:F.n=N) (hg:Dj all g gt F) (hgd:Cz g o.guard=true) :
 ∃ fr' F' σ',CR E call all o F σ=some (F',σ')/\Av fr' F'/\Cd all N g gt [o] F F'/\K fr' σ'=some r:=by
 have hw:=Hz hg hgd;unfold Cs at h;split at h
 ·rename_i c hc;obtain ⟨fr1,tv,σ1,h1,h2,h3,h4⟩:=Rs hp h hf;obtain ⟨fr2,F2,h5,h6,h7,h8⟩:=Hm h4 h3 hN hg h2 rfl;exact ⟨fr2,F2,σ1,Gt hw (.inl ⟨c,hc,h1⟩) h5,h6,h7,h8⟩
 ·cases h
 ·rename_i n1 n2;obtain ⟨fr1,tv,σ1,h1,h2,h3,h4⟩:=Uj h hf;obtain ⟨fr2,F2,h5,h6,h7,h8⟩:=Hm h4 h3 hN hg h2 rfl;exact ⟨fr2,F2,σ1,Gt hw (.inr ⟨λc hc=>n1 c hc,λc hc=>n2 c hc,h1⟩) h5,h6,h7,h8⟩
def IA (E:Env):CA->V->Prop
 | .at x off,a=>adr x off=some a
 | .el t x sz i off,a=>∃ q elem inf,E.P.underlying t=some (.slice elem)/\E.P.info? elem=some inf/\inf.size=sz/\indexAt E t x (.int .i64 i)=some q/\adr q off=some a
def LU (E:Env):CA->Prop
 | .at _ _=>True
 | .el t _ sz _ _=>∃ elem inf,E.P.underlying t=some (.slice elem)/\E.P.info? elem=some inf/\inf.size=sz
theorem Q8 {x a:V} {n m:Nat} (h:adr x (n+m)=some a): ∃ q,adr x n=some q/\adr q m=some a:=by
 cases x<;>cases h
 ·exact ⟨_,rfl,by simp [adr,Nat.add_assoc]⟩
 ·exact ⟨_,rfl,by simp [adr,Nat.add_assoc]⟩
 ·exact ⟨_,rfl,by simp [adr,Nat.add_assoc]⟩
theorem ZL {ca:CA} {n:Nat} {a:V} (h:IA E (ca.on n) a): ∃ q,IA E ca q/\adr q n=some a:=by
 cases ca with
 | «at» x o=>exact Q8 h
 | el t x sz i o =>
  obtain ⟨q,elem,inf,h1,h2,h3,h4,h5⟩:=h;obtain ⟨p,h6,h7⟩:=Q8 h5;exact ⟨p,⟨q,elem,inf,h1,h2,h3,h4,h6⟩,h7⟩
theorem PS {x:Operand} {d:Nat} (h:HY x d=true):x=.tmp d:=by
 unfold HY at h;split at h
 ·rw [Nat.eq_of_beq_eq_true h]
 ·cases h
theorem Rq {ca:CA} {a b:V} (h:IA E ca a) (h':IA E ca b):a=b:=by
 cases ca with
 | «at» x o =>
  have h:adr x o=some a:=h;have h':adr x o=some b:=h';rw [h] at h';cases h';rfl
 | el t x sz i o =>
  obtain ⟨q,_,_,_,_,_,h4,h5⟩:=h;obtain ⟨q',_,_,_,_,_,h4',h5'⟩:=h';rw [h4] at h4';cases h4';rw [h5] at h5';cases h5';rfl
def plain (op:Op):Prop:=(∀ c,op≠.call c)/\(∀ c,op≠.defer c)
theorem aH {op:Op} {ca:CA} {d:Nat} {K:Kt R} (h:Om E op ca d fr σ K=some r) (hca:LU E ca) (hf:Av fr F) :
 ∃ a,IA E ca a/\plain op/\(F.t.get d=some a->Dx E F (Aq E F.ev op σ) K r):=by
 unfold Om at h;split at h
 ·rename_i t a;cases ha:HY a d with
  | false=>rw [ha] at h;cases h
  | true =>
   rw [ha] at h;have ha:=PS ha;subst ha;have hpl:plain (.load t (.tmp d)):=⟨λ_ h=>(by cases h),λ_ h=>(by cases h)⟩
   simp only [bC] at h;split at h
   ·rename_i inf ds hi hd;have fin: ∀ (q v:V) (one:Bool),loadAt E t q σ=some v->(one=true->v.one=true)->K fr (.vv v one) σ=some r->F.t.get d=some q->Dx E F (Aq E F.ev (.load t (.tmp d)) σ) K r:=by
     intro q v one h2 h3 h4 hd';have:F.ev (.tmp d)=some q:=hd';exact ⟨fr,.vv v one,σ,by simp only [Aq,this,h2];rfl,h3,hf,h4⟩
    split at h
    ·rename_i x off;cases hg:Be ds with
     | true =>
      rw [hg] at h;obtain ⟨q,v,h3,h4,h5⟩:=PY (t:=t) hi hd hg (show ldN E inf.size x off σ _=some r from h);exact ⟨q,h3,hpl,fin q v false h4 (λh=>by cases h) h5⟩
     | false =>
      rw [hg] at h;obtain ⟨q,v,h3,h4,h6,h5⟩:=PX (t:=t) hi hd hg (show ld1 E x off σ _=some r from h);exact ⟨q,h3,hpl,fin q v true h4 (λ_=>h6) h5⟩
    ·rename_i t' x sz i off;obtain ⟨elem,inf',h6,h7,h8⟩:=hca;cases hg:Be ds with
     | true =>
      rw [hg] at h;rw [<-h8] at h;obtain ⟨q,p,v,h3,h4,h5,h9⟩:=l8 (t:=t') (u:=t) (k:=.i64) h6 h7 hi hd hg (show Bw inf'.size inf.size x i off σ _=some r from h);exact ⟨p,⟨q,elem,inf',h6,h7,h8,h3,h4⟩,hpl,fin p v false h5 (λh=>by cases h) h9⟩
     | false =>
      rw [hg] at h;rw [<-h8] at h;obtain ⟨q,p,v,h3,h4,h5,h10,h9⟩:=l7 (t:=t') (u:=t) (k:=.i64) h6 h7 hi hd hg (show AZ inf'.size x i off σ _=some r from h);exact ⟨p,⟨q,elem,inf',h6,h7,h8,h3,h4⟩,hpl,fin p v true h5 (λ_=>h10) h9⟩
   ·cases h
 ·rename_i t a x;cases ha:HY a d with
  | false=>rw [ha] at h;cases h
  | true =>
   rw [ha] at h;have ha:=PS ha;subst ha;have hpl:plain (.store t (.tmp d) x):=⟨λ_ h=>(by cases h),λ_ h=>(by cases h)⟩
   simp only [bC] at h;split at h
   ·rename_i inf ds hi hd;cases hg:(Be ds||!Nat.beq inf.size 1) with
    | true=>rw [hg] at h;cases h
    | false =>
     rw [hg] at h;simp only at h;simp only [Bool.or_eq_false_iff,Bool.not_eq_false'] at hg;obtain ⟨fr1,tv,h1,h2,h3,h4⟩:=Qi h hf;have fin: ∀ (q:V) (σ':St),storeAt E t q tv.toV σ=some σ'->K fr1 Dh σ'=some r->F.t.get d=some q->Dx E F (Aq E F.ev (.store t (.tmp d) x) σ) K r:=by
      intro q σ' h6 h7 hd';have:F.ev (.tmp d)=some q:=hd';exact ⟨fr1,Dh,σ',by simp only [Aq,this,h1,h6];rfl,DA,h3,h7⟩
     split at h4
     ·rename_i y off;obtain ⟨q,σ',h5,h6,h7⟩:=Vn (t:=t) hi (Nat.eq_of_beq_eq_true hg.2) h2 h4;exact ⟨q,h5,hpl,fin q σ' h6 h7⟩
     ·rename_i t' y sz i off;obtain ⟨elem,inf',h6,h7,h8⟩:=hca;rw [<-h8] at h4;obtain ⟨q,p,σ',h9,h10,h11,h12⟩:=uA (t:=t') (u:=t) (k:=.i64) h6 h7 hi (Nat.eq_of_beq_eq_true hg.2) h2 h4;exact ⟨p,⟨q,elem,inf',h6,h7,h8,h9,h10⟩,hpl,fin p σ' h11 h12⟩
   ·cases h
 ·cases h
theorem TJ {s:TypeId} {f o:Nat} (h:Lw E s f=some o) (p:V):fieldAt E s p f=adr p o:=by
 unfold Lw at h;unfold fieldAt;split at h
 ·rename_i fs hs;simp only [hs];split at h
  ·rename_i fd hfd;simp only [hfd];split at h
   ·rename_i i hi;simp only [hi];cases hb:Nat.beq i.size 0 with
    | true=>rw [hb] at h;cases h
    | false =>
     rw [hb] at h;cases h;cases p<;>rfl
   ·cases h
  ·cases h
 ·cases h
theorem Kb {d:Nat} (h:EW N gt d fr=true):Nat.blt d N=true/\EZ gt (some d)=true/\(fr.getF d).isNone=true:=by
 unfold EW at h;simp only [Bool.and_eq_true] at h;exact ⟨h.1.1,h.1.2,h.2⟩
theorem IG {o:Oper} {os:List Oper} {F F':Fr} {σ σ':St} (h:CR E call all o F σ=some (F',σ')):CU E call all (o :: os) F σ=CU E call all os F' σ':=by
 rw [CU];simp only [h]
theorem Nn {a b:List Oper} {F F':Fr} {σ σ':St} (h:CU E call all a F σ=some (F',σ')):CU E call all (a++b) F σ=CU E call all b F' σ':=by
 induction a generalizing F σ with
 | nil=>cases h;rfl
 | cons o a ih =>
  rw [CU] at h;split at h
  ·rename_i F1 σ1 h1;rw [List.cons_append,IG h1];exact ih h
  ·cases h
theorem Cd.cons {o:Oper} {os:List Oper} {F F' F'':Fr} (h:Cd all N g gt [o] F F') (k:Cd all N g gt os F' F''):Cd all N g gt (o :: os) F F'' where
 n:=k.n
 d:=k.d.trans h.d
 g:=k.g
 same:=λt ht=>(k.same t λo' ho'=>ht o' (List.mem_cons_of_mem _ ho')).trans (h.same t λo' ho'=>ht o' (by rw [List.mem_singleton.1 ho'];exact List.mem_cons_self ..))
theorem L9 (hN:F.n=N) (hg:Dj all g gt F) {o:Oper} {d:Nat} {v:V} (hd:o.dst=some d) (h:EZ gt (some d)=true):Cd all N g gt [o] F { F with t:=F.t.set d v } where
 n:=hN
 d:=rfl
 g:=JV hg h
 same:=λt ht=>by
  simp only [PT.get_set];rw [if_neg];intro e;subst e;exact ht o (List.mem_singleton.2 rfl) hd
theorem Lf: ∀ (n:Nat) (os:List Oper) (ca:CA) (d:Nat) {fr:SF} {K:SF->St->Option R},GV E N g gt n os ca d fr σ K=some r->LU E ca->∀ {F:Fr},Av fr F->F.n=N->Dj all g gt F ->
 ∃ a,IA E ca a/\(F.t.get d=some a->∃ fr' F' σ',CU E call all (os.take (n+1)) F σ=some (F',σ')/\Av fr' F'/\Cd all N g gt (os.take (n+1)) F F'/\K fr' σ'=some r)
 | n,[],ca,d,fr,K,h,_,F,_,_,_=>by cases n<;>cases h
 | 0,o :: os,ca,d,fr,K,h,hca,F,hf,hN,hg=>by
  unfold GV at h;cases hgd:Cz g o.guard with
  | false=>rw [hgd] at h;cases h
  | true =>
   rw [hgd] at h;simp only [bC] at h;obtain ⟨a,h1,h2,h3⟩:=aH h hca hf;refine ⟨a,h1,λhd=>?_⟩;obtain ⟨fr1,tv,σ1,h4,h5,h6,h7⟩:=h3 hd;obtain ⟨fr2,F2,h8,h9,h10,h11⟩:=Hm (all:=all) (g:=g) h7 h6 hN hg h5 (o:=o) rfl;have hs:=Gt (call:=call) (Hz hg hgd) (.inr ⟨h2.1,h2.2,h4⟩) h8;exact ⟨fr2,F2,σ1,by simp only [List.take_succ_cons,List.take_zero,CU,hs],h9,h10,h11⟩
 | n+1,o :: os,ca,d,fr,K,h,hca,F,hf,hN,hg=>by
  unfold GV at h;cases hgd:Cz g o.guard with
  | false=>rw [hgd] at h;cases h
  | true =>
   rw [hgd] at h;simp only [bC] at h;split at h
   ·rename_i s x f d' hop hdst;split at h
    ·rename_i off hoff;cases hc:(HY x d&&EW N gt d' fr) with
     | false=>rw [hc] at h;cases h
     | true =>
      rw [hc] at h;simp only [Bool.and_eq_true] at hc;obtain ⟨hx,hj⟩:=hc;have hx:=PS hx;subst hx;obtain ⟨hj1,hj2,hj3⟩:=Kb hj;have hca':LU E (ca.on off):=by cases ca<;>exact hca
      obtain ⟨a',h1,_⟩:=Lf n os (ca.on off) d' (F:=F) (show GV E N g gt n os (ca.on off) d' fr σ K=some r from h) hca' hf hN hg;obtain ⟨a,h2,h3⟩:=ZL h1;refine ⟨a,h2,λhd=>?_⟩;have hs:CR E call all o F σ=some ({ F with t:=F.t.set d' a' },σ):=by
       refine Gt (Hz hg hgd) (.inr ⟨λc hc=>(by rw [hop] at hc;cases hc),λc hc=>(by rw [hop] at hc;cases hc),?_⟩) (by rw [hdst];exact Jm hN hj1);rw [hop];have:F.ev (.tmp d)=some a:=hd;simp only [Aq,this,TJ hoff,h3];rfl
      obtain ⟨a2,h4,h5⟩:=Lf n os (ca.on off) d' (F:={ F with t:=F.t.set d' a' }) (show GV E N g gt n os (ca.on off) d' fr σ K=some r from h) hca' (L5 hf hj3) hN (JV hg hj2);have:=Rq h1 h4;subst this;obtain ⟨fr',F',σ',h6,h7,h8,h9⟩:=h5 (by simp only [PT.get_set,if_true]);refine ⟨fr',F',σ',?_,h7,Cd.cons (L9 hN hg hdst hj2) h8,h9⟩;rw [List.take_succ_cons,IG hs];exact h6
    ·cases h
   ·cases h
theorem uF {op:Op} {K:SF->CA->Option R} (h:QL E op fr K=some r) (hf:Av fr F): ∃ fr' ca,Av fr' F/\LU E ca/\plain op/\(∀ a,IA E ca a->Aq E F.ev op σ=some (a,σ))/\K fr' ca=some r:=by
 unfold QL at h;split at h
 ·split at h
  ·rename_i s x f o ho;obtain ⟨p,h1,h2⟩:=Bq h hf;exact ⟨fr,.at p o,hf,trivial,⟨λ_ h=>(by cases h),λ_ h=>(by cases h)⟩,λa ha=>(by have ha:adr p o=some a:=ha;simp only [Aq,h1,TJ ho,ha];rfl),h2⟩
  ·cases h
 ·split at h
  ·rename_i t x i _ elem ht;split at h
   ·rename_i inf hi;obtain ⟨v,h1,h2⟩:=Bq h hf;obtain ⟨k,n,h3,h5⟩:=I6 h2 hf;refine ⟨fr,.el t v inf.size n 0,hf,⟨elem,inf,ht,hi,rfl⟩,⟨λ_ h=>(by cases h),λ_ h=>(by cases h)⟩,λa ha=>?_,h5⟩;obtain ⟨q,_,_,_,_,_,h6,h7⟩:=ha;have:=IK h7;subst this;simp only [Aq,h1,h3,Tj (k:=k),h6];rfl
   ·cases h
  ·cases h
 ·obtain ⟨p,h1,h2⟩:=Bq h hf;refine ⟨fr,.at p 0,hf,trivial,⟨λ_ h=>(by cases h),λ_ h=>(by cases h)⟩,λa ha=>?_,h2⟩;have ha:adr p 0=some a:=ha;have:=IK ha;subst this;simp only [Aq,h1];cases a<;>cases ha<;>rfl
 ·cases h
theorem YL {n:Nat} {os:List Oper} {K:SF->St->Option R} (h:Ns E N g gt n os fr σ K=some r) (hf:Av fr F) (hN:F.n=N) (hg:Dj all g gt F) :
 ∃ fr' F' σ',CU E call all (os.take (n+1)) F σ=some (F',σ')/\Av fr' F'/\Cd all N g gt (os.take (n+1)) F F'/\K fr' σ'=some r:=by
 unfold Ns at h;split at h
 ·rename_i n o os;split at h
  ·rename_i d hdst;cases hc:(Cz g o.guard&&EW N gt d fr) with
   | false=>rw [hc] at h;cases h
   | true =>
    rw [hc] at h;simp only [Bool.and_eq_true] at hc;simp only [bC] at h;obtain ⟨fr1,ca,h1,h2,h3,h4,h5⟩:=uF (σ:=σ) h hf;cases hj:EW N gt d fr1 with
    | false=>rw [hj] at h5;cases h5
    | true =>
     rw [hj] at h5;obtain ⟨hj1,hj2,hj3⟩:=Kb hj;obtain ⟨a,h6,_⟩:=Lf (call:=call) (all:=all) n os ca d (show GV E N g gt n os ca d fr1 σ K=some r from h5) h2 h1 hN hg;have hs:CR E call all o F σ=some ({ F with t:=F.t.set d a },σ) :=
      Gt (Hz hg hc.1) (.inr ⟨h3.1,h3.2,h4 a h6⟩) (by rw [hdst];exact Jm hN hj1)
     obtain ⟨a2,h7,h8⟩:=Lf (call:=call) (all:=all) n os ca d (F:={ F with t:=F.t.set d a }) (show GV E N g gt n os ca d fr1 σ K=some r from h5) h2 (L5 h1 hj3) hN (JV hg hj2);have:=Rq h6 h7;subst this;obtain ⟨fr',F',σ',h9,h10,h11,h12⟩:=h8 (by simp only [PT.get_set,if_true]);refine ⟨fr',F',σ',?_,h10,Cd.cons (L9 hN hg hdst hj2) h11,h12⟩;rw [List.take_succ_cons,IG hs];exact h9
  ·cases h
 ·cases h
end
section
variable {R:Type} {fr:SF} {F:Fr} {r:R} {E:Env} {σ:St} {call:Call} {pu:FuncId->Bool} {N:Nat} {all:List Oper} {g:Option (Nat×Bool)} {gt:Option Nat}
theorem oI (cs:List V) (off m:Nat):Kl cs off m=(cs.drop off).take m:=by
 cases off with
 | zero =>
  show bK (Nat.beq (BN cs) m) cs (Cc cs m)=_;rw [FK,Et,CB]
  split
  ·rename_i h;have:=Nat.eq_of_beq_eq_true h;rw [List.drop_zero,<-this,List.take_length]
  ·rfl
 | succ p =>
  show Cc (EG cs (p+1)) m=_;rw [Et,FL]
theorem rX (xs:List V) (l:Nat):P9 xs l=((xs.take l).map V.cells).flatten:=by
 unfold P9;rw [Et]
 induction xs.take l with
 | nil=>rfl
 | cons x t ih =>
  show GU x.cellsF _=_;rw [IM,V.zAb,ih];rfl
theorem Yi {s:V} {l:Nat} (h:s.asLen=some l):DH s=some l/\∀ x,s≠.str x:=by
 cases s<;>cases h
 ·exact ⟨rfl,λ_ h=>by cases h⟩
 ·exact ⟨rfl,λ_ h=>by cases h⟩
 ·exact ⟨by rw [CB];rfl,λ_ h=>by cases h⟩
 ·exact ⟨rfl,λ_ h=>by cases h⟩
theorem Yl {s:V} (h:s.asSA=.nil):s=.nilS:=by
 cases s<;>first | rfl | (cases h;done) | (rename_i xs full;cases full<;>cases h)
theorem Yk {s:V} {xs:List V} (h:s.asSA=.lst xs):s=.lst xs true:=by
 cases s<;>first | (cases h;done) | (rename_i ys full;cases full<;>cases h;rfl)
theorem Ym {s:V} {b ver off len:Nat} {cap:Option Nat} (h:s.asSA=.ref b ver off len cap):s=.ref b ver off len cap:=by
 cases s<;>first | (cases h;rfl) | (cases h;done) | (rename_i ys full;cases full<;>cases h)
theorem RG {elem:TypeId} {sz n:Nat} {new:List V} (hnew:BO new=true) {s:V} {K:V->St->Option R} (h:BQ elem sz n new s σ K=some r) :
 ∃ l v σ',DH s=some l/\(∀ x,s≠.str x)/\l+n<=4294967296/\ES elem sz l (l+n) new s σ=some (v,σ')/\v.one=true/\K v σ'=some r:=by
 obtain ⟨l,h1,h2⟩:=BR (show oK _ _=some r from h);rw [Ce] at h2;obtain ⟨h3,h4⟩:=CO h2;obtain ⟨h5,h6⟩:=Yi h1;have h3:l+n<=4294967296:=Nat.le_of_ble_eq_true h3;have e0:Nat.add l n=l+n:=rfl;rw [e0] at h4;refine ⟨l,?_⟩;have fin: ∀ (v:V) (σ':St),ES elem sz l (l+n) new s σ=some (v,σ')->v.one=true->K v σ'=some r->∃ v σ',DH s=some l/\(∀ x,s≠.str x)/\l+n<=4294967296/\ES elem sz l (l+n) new s σ=some (v,σ')/\v.one=true/\K v σ'=some r :=
  λv σ' a b c=>⟨v,σ',h5,h6,h3,a,b,c⟩
 cases hs:s.asSA with
 | no=>rw [hs] at h4;cases h4
 | nil =>
  rw [hs] at h4;have:=Yl hs;subst this;have h4:σ.newK _ _=some r:=h4;rw [St.zAi] at h4;exact fin _ _ rfl rfl h4
 | lst xs =>
  rw [hs] at h4;have:=Yk hs;subst this;obtain ⟨h7,h8⟩:=CO (show gd _ _=some r from h4);rw [St.zAi] at h8;simp only [rX,CB,IM] at h7 h8;have hl:l=xs.length:=by simpa [DH] using h5.symm
  refine fin _ _ ?_ rfl h8;unfold ES Dq;simp only [hl,Nat.ble_eq.mpr (Nat.le_refl _),if_true];rw [hl] at h7;have h7:Nat.beq ((xs.take xs.length).map V.cells).flatten.length (xs.length*sz)=true:=h7;rw [if_pos h7]
 | ref b ver off len cap =>
  rw [hs] at h4;have:=Ym hs;subst this;have hl:l=len:=by simpa [DH] using h5.symm
  subst hl;obtain ⟨o,h7,h8⟩:=BR (show oK _ _=some r from h4);rw [St.getF_eq] at h7;cases o with
  | map es clock=>cases h8
  | blk cs ty ver' fz =>
   cases fz with
   | true=>cases h8
   | false =>
    obtain ⟨h9,h10⟩:=CO (show gd _ _=some r from h8);have hv:=Nat.eq_of_beq_eq_true h9;subst hv;have row:Nat.ble (off+l*sz) cs.length=true->Dq σ sz l (.ref b ver off l cap)=some ((cs.drop off).take (l*sz)):=by
     intro hle;unfold Dq;simp only [h7,Nat.beq_refl,Nat.ble_eq.mpr (Nat.le_refl _),hle,Bool.and_self,if_true]
    cases cap with
    | none =>
     obtain ⟨h11,h12⟩:=CO (show gd _ _=some r from h10);rw [FK,CB] at h12;have e1:Nat.add off (Nat.mul (l+n) sz)=off+(l+n)*sz:=rfl;have e2:Nat.add off (Nat.mul l sz)=off+l*sz:=rfl;rw [e1,e2] at h12;split at h12
     ·rename_i hle;obtain ⟨cs',h13,h14⟩:=BR h12;rw [St.zAq] at h14;refine fin _ _ ?_ rfl h14;unfold ES;simp only [h7,Nat.beq_refl,if_true,h11,Bool.not_true,Bool.false_eq_true,if_false,hle,h13]
     ·rename_i hle;obtain ⟨h13,h14⟩:=CO h12;rw [Ce,St.zAq,IM,oI] at h14;refine fin _ _ ?_ rfl h14;unfold ES;simp only [h7,Nat.beq_refl,if_true,h11,Bool.not_true,Bool.false_eq_true,if_false,hle,hnew,row h13];rfl
    | some c =>
     have h10:bK _ _ _=some r:=h10;rw [FK,CB] at h10;have e2:Nat.add off (Nat.mul l sz)=off+l*sz:=rfl;rw [e2] at h10;split at h10
     ·rename_i hle;obtain ⟨cs',h13,h14⟩:=BR h10;rw [St.zAq] at h14;refine fin _ _ ?_ rfl h14;unfold ES;simp only [h7,Nat.beq_refl,if_true,hle,h13]
     ·rename_i hle;obtain ⟨h13,h14⟩:=CO h10;rw [St.zAi,IM,Et,FL] at h14;refine fin _ _ ?_ rfl h14;unfold ES;simp only [h7,Nat.beq_refl,if_true,hle,row h13,Bool.false_eq_true,if_false];rfl
theorem Nv (cs:List V):BO cs=cs.all V.one:=by
 induction cs with
 | nil=>rfl
 | cons c cs ih=>simp [BO,ih]
theorem YM {n:Nat} {v:V} {K:List V->Option R} (h:agN n v K=some r): ∃ cs,v=.agg cs/\cs.length=n/\BO cs=true/\K cs=some r:=by
 obtain ⟨cs,h1,h2⟩:=BR (show oK _ _=some r from h);obtain ⟨h3,h4⟩:=CO h2;obtain ⟨h5,h6⟩:=CO h4;rw [YN] at h5;rw [CB] at h3;refine ⟨cs,V.zAL h1,Nat.eq_of_beq_eq_true h3,?_,h6⟩;rw [Nv,<-h5]
 congr 1
 funext v;exact (V.zAh v).symm
theorem qX (n:Nat) (z:List V):(Cu n z).length=n*z.length:=by
 unfold Cu;simp
theorem Th: ∀ {ps:List (Nat×Operand)} {i:Nat},Ih i ps=true->∀ (l:List (Nat×TV)),l.map (·.1)=ps.map (·.1)->∀ (cs pre:List V),pre.length=i->cs.length=i+ps.length ->
 (∀ p∈l,p.2.toV.one=true)->El (λk=>some (k*1,1)) cs (l.map λp=>(p.1,p.2.toV))=some ((cs.take i)++l.map λp=>p.2.toV)
 | [],i,_,l,hl,cs,pre,hp,hcs,_=>by
  have:l=[]:=by simpa using hl
  subst this;have:cs.take i=cs:=List.take_of_length_le (by simp at hcs;omega);simp [El,this]
 | (j,x) :: ps,i,h,l,hl,cs,pre,hp,hcs,h1=>by
  unfold Ih at h;simp only [Bool.and_eq_true] at h;have hj:=Nat.eq_of_beq_eq_true h.1;subst hj;cases l with
  | nil=>simp at hl
  | cons q l =>
   obtain ⟨q1,q2⟩:=q;simp only [List.map_cons,List.cons.injEq] at hl;obtain ⟨e,hl⟩:=hl;subst e;have hq:=h1 _ (List.mem_cons_self ..);simp only [List.length_cons] at hcs;simp only [List.map_cons,El,KK hq,List.length_singleton,Nat.beq_refl,if_true,Nat.mul_one];rw [QD (by omega) hq];simp only;have ih:=Th h.2 l hl (cs.set q1 q2.toV) (pre++[q2.toV]) (by simp [hp]) (by simp;omega) λp hp=>h1 p (List.mem_cons_of_mem _ hp)
   simp only [Nat.mul_one] at ih;rw [ih]
   congr 1
   rw [List.take_add_one,List.take_set_of_le (Nat.le_refl _)];simp [show q1<cs.length by omega]
theorem R3 {d:TypeDesc} (hd:Be d=false): ∀ (cs:List V),BO cs=true->Dz d 1 cs.length cs=some cs
 | [],_=>rfl
 | c :: cs,h=>by
  simp only [BO,Bool.and_eq_true] at h;have ih:=R3 hd cs h.2;simp [Dz,hd,h.1,ih]
theorem Mu: ∀ (pre new post:List V),BO new=true->∀ (old:List V),old.length=new.length->Ca (pre++old++post) pre.length new=some (pre++new++post)
 | pre,[],post,_,old,ho=>by
  have:old=[]:=List.eq_nil_of_length_eq_zero (by simpa using ho);subst this;unfold Ca;rw [if_pos (Nat.ble_eq.mpr (by simp))]
 | pre,v :: vs,post,h,old,ho=>by
  simp only [BO,Bool.and_eq_true] at h;cases old with
  | nil=>simp at ho
  | cons o old =>
   unfold Ca;rw [if_pos (by rw [(Nat.blt_eq).mpr (by simp),h.1];rfl)];have e:(pre++o :: old++post).set pre.length v=(pre++[v])++old++post:=by simp
   rw [e];have:=Mu (pre++[v]) vs post h.2 old (by simpa using ho);simp only [List.length_append,List.length_singleton] at this;rw [this];simp
theorem xB {x:Operand} {K:V->Option R} (h:Bc fr x K=some r): ∃ tv,sev fr x=some tv/\K tv.toV=some r:=by
 unfold Bc at h;split at h
 ·rename_i tv ht;exact ⟨tv,ht,h⟩
 ·cases h
theorem mK {t elem:TypeId} {inf:TypeInfo} {ds:TypeDesc} {z:V} (ht:E.P.underlying t=some (.slice elem)) (hi:E.P.info? elem=some inf) (hd:E.P.underlying elem=some ds) (hz:Cm E.P elem=some z) (hw:E.wlit t=false) (hg:Be ds=false) (hs:inf.size=1) (hzl:z.cells.length=inf.size)
 {ps:List (Nat×Operand)} (ho:Ih 0 ps=true) {l:List (Nat×TV)} (hl:l.map (·.1)=ps.map (·.1)) (h1: ∀ p∈l,p.2.toV.one=true) (hn:ps.length<=1000) :
 Cq E t ps.length (l.map λp=>(p.1,p.2.toV)) σ=some (.lst (l.map λp=>p.2.toV) true,σ):=by
 unfold Cq;simp only [ht,hi,hd,hz,hs];rw [if_neg (by
  simp only [Bool.or_eq_true,Bool.not_eq_true',not_or];refine ⟨⟨by simp,?_⟩,by rw [hzl,hs];simp⟩;simp only [Nat.mul_one];intro h;have:=Lc h;omega)]
 have hr:(Cu ps.length z.cells).length=ps.length:=by rw [qX,hzl,hs,Nat.mul_one]
 have:=Th ho l hl (Cu ps.length z.cells) [] rfl (by rw [hr];omega) h1;simp only [List.take_zero,List.nil_append] at this;rw [this];simp only [hw,Bool.false_eq_true,if_false];have hlen:l.length=ps.length:=by have:=congrArg List.length hl;simpa using this
 have hall:BO (l.map λp=>p.2.toV)=true:=by
  rw [Nv,List.all_eq_true];intro v hv;obtain ⟨p,hp,rfl⟩:=List.mem_map.1 hv;exact h1 p hp
 have hc:=R3 hg (l.map λp=>p.2.toV) hall;rw [List.length_map,hlen] at hc;rw [hc]
theorem mJ {t elem:TypeId} {inf:TypeInfo} {ds:TypeDesc} {z:V} (ht:E.P.underlying t=some (.slice elem)) (hi:E.P.info? elem=some inf) (hd:E.P.underlying elem=some ds) (hz:Cm E.P elem=some z) (hw:E.wlit t=false) (hg:Be ds=true) (h0:0<inf.size) (hm:inf.size<=1000) (hzl:z.cells.length=inf.size)
 {cs:List V} (hcs:cs.length=inf.size) (h1:BO cs=true):Cq E t 1 [(0,.agg cs)] σ=some (.lst [.agg cs] true,σ):=by
 unfold Cq;simp only [ht,hi,hd,hz];rw [if_neg (by
  simp only [Bool.or_eq_true,Bool.not_eq_true',not_or];refine ⟨⟨?_,?_⟩,by rw [hzl];simp⟩
  ·intro h;have:=Nat.eq_of_beq_eq_true h;omega
  ·intro h;have:=Lc h;omega)]
 have e:(V.agg cs).cells=cs:=rfl;have hr:Cu 1 z.cells=[]++z.cells++[]:=by simp [Cu]
 have:=Mu [] cs [] h1 z.cells (by rw [hzl,hcs]);simp only [List.length_nil,List.nil_append,List.append_nil] at this;have hr:Cu 1 z.cells=z.cells:=by simp [Cu]
 simp only [El,Nat.zero_mul,e,hcs,Nat.beq_refl,if_true,hr,this,hw,Bool.false_eq_true,if_false];have ht:cs.take inf.size=cs:=List.take_of_length_le (by omega);simp only [Dz,ht,hcs,Nat.beq_refl,if_true,hg]
theorem RJ {t u elem:TypeId} {inf:TypeInfo} {z:V} (ht:E.P.underlying t=some (.slice elem)) {ue:TypeId} (hu:E.P.underlying u=some (.slice ue)) (hi:E.P.info? elem=some inf) (hz:Cm E.P elem=some z) (h0:0<inf.size) (hb:inf.bytes<=16384) (hzl:z.cells.length=inf.size)
 {xs new:List V} (hx:(xs.map V.cells).flatten=new) (hlen:new.length=xs.length*inf.size) (hn:xs.length≠0) {s:V} {l:Nat} {v:V} {σ':St} (hl:DH s=some l) (hs: ∀ x,s≠.str x) (hle:l+xs.length<=4294967296) (h:ES elem inf.size l (l+xs.length) new s σ=some (v,σ')) :
 DC E .append [t,u] [s,.lst xs true] σ=some (v,σ'):=by
 simp only [DC,hu];unfold KI;have hx1:Ha false (.lst xs true)=some xs.length:=rfl;simp only [ht,hi,hl,hx1,hz];rw [if_neg (by
  simp only [Bool.not_eq_true',Bool.and_eq_false_iff]
  rintro (((h | h) | h) | h)
  ·rw [(Nat.blt_eq).mpr h0] at h;cases h
  ·rw [Nat.ble_eq.mpr hle] at h;cases h
  ·rw [Nat.ble_eq.mpr hb] at h;cases h
  ·rw [hzl,Nat.beq_refl] at h;cases h)]
 have hnb:Nat.beq xs.length 0=false:=by
  cases hb:Nat.beq xs.length 0 with
  | false=>rfl
  | true=>exact absurd (Nat.eq_of_beq_eq_true hb) hn
 have hrow:Hr false z.cells σ inf.size xs.length (.lst xs true)=some new:=by
  show Dq σ inf.size xs.length (.lst xs true)=some new;unfold Dq;simp only [Nat.ble_eq.mpr (Nat.le_refl _),if_true,List.take_length,hx,hlen,Nat.beq_refl]
 cases s with
 | str x=>exact absurd rfl (hs x)
 | _=>simp only [hnb,Bool.false_eq_true,if_false,hrow];exact h
theorem TH: ∀ (l:List (Nat×TV)),(∀ p∈l,p.2.toV.one=true)->((l.map λp=>p.2.toV).map V.cells).flatten=l.map λp=>p.2.toV
 | [],_=>rfl
 | q :: l,h=>by
  have:=TH l λp hp=>h p (List.mem_cons_of_mem _ hp)
  simp only [List.map_cons,List.flatten_cons,KK (h q (List.mem_cons_self ..)),this];rfl
theorem Ya {os:List Oper} {K:SF->St->Option R} (h:Nx E N g gt os fr σ K=some r) (hf:Av fr F) (hN:F.n=N) (hg:Dj all g gt F) :
 ∃ fr' F' σ',CU E call all (os.take 2) F σ=some (F',σ')/\Av fr' F'/\Cd all N g gt (os.take 2) F F'/\K fr' σ'=some r:=by
 unfold Nx at h;split at h
 ·rename_i o1 o2 rest;cases hgd:(Cz g o1.guard&&Cz g o2.guard) with
  | false=>rw [hgd] at h;cases h
  | true =>
   rw [hgd] at h;simp only [Bool.and_eq_true] at hgd;simp only [bC] at h;split at h
   ·rename_i t len ps d c ho1 hd1 ho2;split at h
    ·rename_i s d' t' u hcal hargs htys;split at h
     ·rename_i elem ue ht hu;split at h
      ·rename_i inf ds z hi hds hz;cases hc:(Nat.beq d d'&&Nat.beq t t'&&EW N gt d fr&&!E.wlit t&&Nat.ble inf.bytes 16384&&Nat.beq z.cells.length inf.size&&Ih 0 ps.toList&&Nat.beq ps.toList.length len&&Nat.blt 0 len&&Nat.ble len 1000&&Nat.blt 0 inf.size&&Nat.ble inf.size 1000) with
       | false=>rw [hc] at h;cases h
       | true =>
        rw [hc] at h;simp only [Bool.and_eq_true,Bool.not_eq_true'] at hc;obtain ⟨⟨⟨⟨⟨⟨⟨⟨⟨⟨⟨h1,h2⟩,h3⟩,h4⟩,h5⟩,h6⟩,h7⟩,h8⟩,h9⟩,h10⟩,h11⟩,h12⟩:=hc;have e1:=Nat.eq_of_beq_eq_true h1;have e2:t=t':=Nat.eq_of_beq_eq_true h2;have e6:=Nat.eq_of_beq_eq_true h6;have e8:=Nat.eq_of_beq_eq_true h8;subst e1;subst e2;subst e8;have h5:=Nat.le_of_ble_eq_true h5;have h9:=Lc h9;have h10:=Nat.le_of_ble_eq_true h10;have h11:=Lc h11;have h12:=Nat.le_of_ble_eq_true h12;simp only at h;obtain ⟨sv,hsv,h⟩:=xB h
        have steps: ∀ (fr2:SF) (l:List (Nat×V)) (xs new:List V) (v:V) (σ':St) (K':SF->St->Option R),Av fr2 F->EW N gt d fr2=true->D5 F.ev ps.toList=some l->Cq E t ps.toList.length l σ=some (.lst xs true,σ) ->
         DC E .append [t,u] [sv.toV,.lst xs true] σ=some (v,σ')->v.one=true->EN N gt o2.dst fr2 (.vv v true) σ' K=some r ->
         ∃ fr' F' σ',CU E call all ((o1 :: o2 :: rest).take 2) F σ=some (F',σ')/\Av fr' F'/\Cd all N g gt ((o1 :: o2 :: rest).take 2) F F'/\K fr' σ'=some r:=by
         intro fr2 l xs new v σ' K' hf2 hj hl hb ha hv hput;obtain ⟨hj1,hj2,hj3⟩:=Kb hj;have hs1:CR E call all o1 F σ=some ({ F with t:=F.t.set d (.lst xs true) },σ):=by
          refine Gt (Hz hg hgd.1) (.inr ⟨λc hc=>(by rw [ho1] at hc;cases hc),λc hc=>(by rw [ho1] at hc;cases hc),?_⟩) (by rw [hd1];exact Jm hN hj1);rw [ho1];simp only [Aq,hl];exact hb
         have hj0:=(Kb h3).2.2;have hf1:Av fr { F with t:=F.t.set d (.lst xs true) }:=L5 hf hj0;obtain ⟨hs2,_⟩:=CP hf1 hsv;have hg1:=JV (v:=.lst xs true) hg hj2;obtain ⟨fr3,F3,h13,h14,h15,h16⟩:=Hm (all:=all) (g:=g) hput (L5 (v:=.lst xs true) hf2 hj3) hN hg1 (λ_=>hv) (o:=o2) rfl;have hs3:CR E call all o2 { F with t:=F.t.set d (.lst xs true) } σ=some (F3,σ'):=by
          refine Gt (Hz hg1 hgd.2) (.inl ⟨c,ho2,?_⟩) h13;unfold IQ;have he:Fr.ev { F with t:=F.t.set d (.lst xs true) } (.tmp d)=some (.lst xs true):=by simp [Fr.ev,PT.get_set]
          rw [hargs];simp only [evs,hs2,he,hcal,htys];exact ha
         refine ⟨fr3,F3,σ',?_,h14,Cd.cons (L9 hN hg hd1 hj2) (Cd.cons h15 ⟨h15.n,rfl,h15.g,λ_ _=>rfl⟩),h16⟩;simp only [List.take_succ_cons,List.take_zero,CU,hs1,hs3]
        cases hag:(!Be ds&&Nat.beq inf.size 1) with
        | true =>
         rw [hag] at h;simp only [Bool.and_eq_true,Bool.not_eq_true'] at hag;simp only at h;have hsz:=Nat.eq_of_beq_eq_true hag.2;obtain ⟨fr2,l,h13,h14,h15,h16,h17⟩:=Pw h hf;cases hj:EW N gt d fr2 with
         | false=>rw [hj] at h17;cases h17
         | true =>
          rw [hj] at h17;simp only at h17;have hall:BO (l.map λp=>p.2.toV)=true:=by
           rw [Nv,List.all_eq_true];intro v hv;obtain ⟨p,hp,rfl⟩:=List.mem_map.1 hv;exact h14 p hp
          obtain ⟨ll,v,σ',h18,h19,h20,h21,h22,h23⟩:=RG hall h17;have hlen:l.length=ps.toList.length:=by have:=congrArg List.length h15;simpa using this
          rw [<-hlen] at h20 h21;refine steps fr2 _ (l.map λp=>p.2.toV) [] v σ' K h16 hj h13 (mK ht hi hds hz h4 hag.1 hsz e6 h7 h15 h14 h10) ?_ h22 h23;refine RJ ht hu hi hz h11 h5 e6 (TH l h14) (by simp [hsz]) (by simp [hlen];intro h;simp [h] at h9) h18 h19 (by simpa using h20) ?_;simp only [List.length_map,hsz];exact h21
        | false =>
         rw [hag] at h;simp only at h
         have fin: ∀ (x:Operand) (i:Nat) (cs:List V),ps.toList=[(i,x)]->F.ev x=some (.agg cs)->cs.length=inf.size->BO cs=true->Be ds=true->(BQ elem inf.size 1 cs sv.toV σ λv σ'=>EN N gt o2.dst fr (.vv v true) σ' K)=some r ->
          ∃ fr' F' σ',CU E call all ((o1 :: o2 :: rest).take 2) F σ=some (F',σ')/\Av fr' F'/\Cd all N g gt ((o1 :: o2 :: rest).take 2) F F'/\K fr' σ'=some r:=by
          intro x i cs hps hx hcs hone hga hh;obtain ⟨ll,v,σ',h18,h19,h20,h21,h22,h23⟩:=RG hone hh;have hi0:i=0:=by
           rw [hps] at h7;unfold Ih at h7;simp only [Bool.and_eq_true] at h7;exact (Nat.eq_of_beq_eq_true h7.1).symm
          subst hi0;refine steps fr [(0,.agg cs)] [.agg cs] [] v σ' K hf h3 (by rw [hps];simp only [D5,hx]) ?_ ?_ h22 h23
          ·rw [hps];exact mJ ht hi hds hz h4 hga h11 h12 e6 hcs hone
          ·exact RJ ht hu hi hz h11 h5 e6 (xs:=[.agg cs]) (new:=cs) (by simp [V.cells]) (by simpa using hcs) (by simp) h18 h19 h20 h21
         split at h
         ·rename_i i x hps;split at h
          ·rename_i cs hx;obtain ⟨h13,h14⟩:=CP hf hx;cases hk:(Be ds&&Nat.beq cs.length inf.size) with
           | false=>rw [hk] at h;cases h
           | true =>
            rw [hk] at h;simp only [Bool.and_eq_true] at hk;exact fin x i cs hps h13 (Nat.eq_of_beq_eq_true hk.2) h14 hk.1 h
          ·rename_i v o hx;obtain ⟨h13,h14⟩:=CP hf hx;cases hk:Be ds with
           | false=>rw [hk] at h;cases h
           | true =>
            rw [hk] at h;simp only at h;obtain ⟨cs,h15,h16,h17,h18⟩:=YM h;subst h15;exact fin x i cs hps h13 h16 h17 hk h18
          ·cases h
         ·cases h
      ·cases h
     ·cases h
    ·cases h
   ·cases h
 ·cases h
end
section
variable {fr:SF} {F:Fr} {E:Env} {σ:St} {call:Call} {pu:FuncId->Bool} {N:Nat} {all:List Oper} {g:Option (Nat×Bool)} {gt:Option Nat}
theorem Q9 {os:List Oper} (h:IL N gt fr os=true): ∀ o∈os,∀ d,o.dst=some d->Nat.blt d N=true/\EZ gt (some d)=true/\(fr.getF d).isNone=true:=by
 intro o ho d hd;have:=List.all_eq_true.1 h o ho;rw [hd] at this;exact Kb this
theorem bO {os:List Oper} {F':Fr} (hf:Av fr F) (hs:JB os F F') (hj: ∀ o∈os,∀ d,o.dst=some d->(fr.getF d).isNone=true):Av fr F':=⟨λt tv ht=>by
 rw [hs t λo ho hd=>by
  have:=hj o ho t hd;rw [PT.getF_eq,ht] at this;cases this]
 exact hf.get t tv ht⟩
theorem dA {os:List Oper} {F':Fr} (hg:Dj all g gt F) (hs:JB os F F') (hj: ∀ o∈os,∀ d,o.dst=some d->EZ gt (some d)=true):Dj all g gt F':=by
 cases g with
 | none=>trivial
 | some p =>
  obtain ⟨j,w⟩:=p;obtain ⟨q,c,h1,h2,h3,h4⟩:=hg;subst h3;refine ⟨q,c,h1,h2,rfl,?_⟩;rw [hs c λo ho hd=>Mc (hj o ho c hd) rfl];exact h4
theorem QG {j:Nat} {w:Bool} {q:Oper} {c:Nat} (hq:all[j]? = some q) (hqd:q.dst=some c): ∀ (os:List Oper) (ds:List Nat) {F:Fr},Jq all (j,w) os ds=true->F.n=N->F.t.get c=some (.bool (!w))->(∀ d∈ds,F.t.get d=some (.tup [])) ->
 (∀ o∈os,∀ d,o.dst=some d->Nat.blt d N=true/\d≠c)->∃ F',CU E call all os F σ=some (F',σ)/\F'.n=N/\F'.d=F.d/\JB os F F'
 | [],_,F,_,hN,_,_,_=>⟨F,rfl,hN,rfl,λ_ _=>rfl⟩
 | o :: os,ds,F,h,hN,hc,hds,hj=>by
  unfold Jq at h;simp only [Bool.and_eq_true] at h;obtain ⟨h1,h2⟩:=h;have hw:Ch all o F=some false:=by
   unfold Ch;split at h1
   ·rename_i j' w' hgd;rw [hgd];simp only [Bool.or_eq_true,Bool.and_eq_true] at h1;rcases h1 with ⟨e1,e2⟩ | h1
    ·have e1:=Nat.eq_of_beq_eq_true e1;have e2:=eq_of_beq e2;subst e1;subst e2;simp only [hq,hqd,hc];cases w'<;>rfl
    ·split at h1
     ·rename_i p hp;split at h1
      ·rename_i d hd;obtain ⟨d',hd',e⟩:=List.any_eq_true.1 h1;have e:=Nat.eq_of_beq_eq_true e;subst e;simp only [hp,hd,hds _ hd']
      ·cases h1
     ·cases h1
   ·cases h1
  cases hd:o.dst with
  | none =>
   rw [hd] at h2;have hs:CR E call all o F σ=some (F,σ):=by unfold CR;rw [hw,hd];rfl
   obtain ⟨F',h3,h4,h5,h6⟩:=QG hq hqd os ds h2 hN hc hds λo ho=>hj o (List.mem_cons_of_mem _ ho)
   exact ⟨F',by rw [IG hs];exact h3,h4,h5,λt ht=>h6 t λo ho=>ht o (List.mem_cons_of_mem _ ho)⟩
  | some d =>
   rw [hd] at h2;obtain ⟨hb,hne⟩:=hj o (List.mem_cons_self ..) d hd;have hs:CR E call all o F σ=some ({ F with t:=F.t.set d (.tup []) },σ):=by unfold CR;rw [hw,hd];simp only [Jm hN hb]
   obtain ⟨F',h3,h4,h5,h6⟩:=QG hq hqd os (d :: ds) (F:={ F with t:=F.t.set d (.tup []) }) h2 hN (by simp only [PT.get_set];rw [if_neg (λe=>hne e.symm)];exact hc)
    (λd' hd'=>by
      simp only [PT.get_set]
      split
      ·rfl
      ·rcases List.mem_cons.1 hd' with e | h
       ·rename_i hn;exact absurd e hn
       ·exact hds d' h) λo ho=>hj o (List.mem_cons_of_mem _ ho)
   refine ⟨F',by rw [IG hs];exact h3,h4,h5,λt ht=>?_⟩;rw [h6 t λo ho=>ht o (List.mem_cons_of_mem _ ho)];simp only [PT.get_set];rw [if_neg];intro e;subst e;exact ht o (List.mem_cons_self ..) hd
theorem YZ {R:Type} {X:Option (Bool×St)} {K:Bool->St->Option R}: A7 true σ X K=pK X K:=rfl
theorem oV {R:Type} {X:Option (Bool×St)} {K:Bool->St->Option R}: orK false σ X K=pK X K:=rfl
theorem R6 {x:Operand} {b:Bool} (h:JY x b=true) (F:Fr):F.ev x=some (.bool b):=by
 unfold JY at h;split at h
 ·rw [eq_of_beq h];rfl
 ·cases h
theorem Cd.app {a b:List Oper} {F F' F'':Fr} (h:Cd all N g gt a F F') (k:Cd all N g gt b F' F''):Cd all N g gt (a++b) F F'' where
 n:=k.n
 d:=k.d.trans h.d
 g:=k.g
 same:=λt ht=>(k.same t λo ho=>ht o (List.mem_append_right _ ho)).trans (h.same t λo ho=>ht o (List.mem_append_left _ ho))
theorem Mk (hp:Dk pu call): ∀ (k:Nat) {R:Type} (g:Option (Nat×Bool)) (gt:Option Nat) (hs:List SH) (os:List Oper) (fr:SF) (σ:St) (K:SF->St->Option R) (r:R),DT E call pu N all k g gt hs os fr σ K=some r ->
 ∀ F:Fr,Av fr F->F.n=N->Dj all g gt F->∃ fr' F' σ',CU E call all os F σ=some (F',σ')/\Av fr' F'/\Cd all N g gt os F F'/\K fr' σ'=some r:=by
 intro k
 induction k with
 | zero=>intro R g gt hs os fr σ K r h;cases h
 | succ k ih =>
  intro R g gt hs os fr σ K r h F hf hN hg;cases hs with
  | nil =>
   cases os with
   | nil =>
    rw [DT] at h;exact ⟨fr,F,σ,rfl,hf,⟨hN,rfl,hg,λ_ _=>rfl⟩,h⟩
   | cons o os=>simp [DT] at h
  | cons sh hs' =>
  cases sh with
  | one =>
   cases os with
   | nil=>simp [DT] at h
   | cons o os =>
   rw [DT] at h;cases hgd:Cz g o.guard with
   | false=>rw [hgd] at h;cases h
   | true =>
    rw [hgd] at h;simp only [bC] at h;obtain ⟨fr1,F1,σ1,h1,h2,h3,h4⟩:=Pk hp h hf hN hg hgd;obtain ⟨fr2,F2,σ2,h5,h6,h7,h8⟩:=ih _ _ _ _ _ _ _ _ h4 F1 h2 h3.n h3.g;exact ⟨fr2,F2,σ2,by rw [IG h1];exact h5,h6,Cd.cons h3 h7,h8⟩
  | adr n =>
   rw [DT] at h;obtain ⟨fr1,F1,σ1,h1,h2,h3,h4⟩:=YL (call:=call) h hf hN hg;obtain ⟨fr2,F2,σ2,h5,h6,h7,h8⟩:=ih _ _ _ _ _ _ _ _ h4 F1 h2 h3.n h3.g;have h9:=Nn (b:=os.drop (n+1)) h1;have h10:=Cd.app h3 h7;rw [List.take_append_drop] at h9 h10;exact ⟨fr2,F2,σ2,by rw [h9];exact h5,h6,h10,h8⟩
  | app =>
   rw [DT] at h;obtain ⟨fr1,F1,σ1,h1,h2,h3,h4⟩:=Ya (call:=call) h hf hN hg;obtain ⟨fr2,F2,σ2,h5,h6,h7,h8⟩:=ih _ _ _ _ _ _ _ _ h4 F1 h2 h3.n h3.g;have h9:=Nn (b:=os.drop 2) h1;have h10:=Cd.app h3 h7;rw [List.take_append_drop] at h9 h10;exact ⟨fr2,F2,σ2,by rw [h9];exact h5,h6,h10,h8⟩
  | grp n l =>
   rw [DT] at h;split at h
   ·rename_i p os' hdrop;split at h
    ·rename_i c a b d o ol hop hdst htake;split at h
     ·rename_i j w hog;split at h
      ·rename_i q hq;cases hc:(Cz g p.guard&&Oh q.dst c&&IL N gt fr (os.take n)&&EZ (some c) (some d)&&Nat.blt d N&&EZ gt (some d)&&Jq all (j,w) (os.take n) []) with
       | false=>rw [hc] at h;cases h
       | true =>
        rw [hc] at h;simp only [Bool.and_eq_true] at hc;obtain ⟨⟨⟨⟨⟨⟨c1,c2⟩,c3⟩,c4⟩,c5⟩,c6⟩,c7⟩:=hc;have hqd:q.dst=some c:=by
         unfold Oh at c2;split at c2
         ·rename_i c' hc';rw [Nat.eq_of_beq_eq_true c2,hc']
         ·cases c2
        simp only [bC] at h;obtain ⟨fr1,cb,h1,h2,h3⟩:=FZ h hf;have h1:F.t.get c=some (.bool cb):=h1;cases hj:(IL N gt fr1 (os.take n)&&IL N (some c) fr1 (os.take n)) with
        | false=>rw [hj] at h3;cases h3
        | true =>
         rw [hj] at h3;simp only [Bool.and_eq_true] at hj;simp only at h3;have j1:=Q9 hj.1;have j2:=Q9 hj.2;have hos:os=os.take n++p :: os':=by rw [<-hdrop,List.take_append_drop]
         have fin: ∀ (F1:Fr) (σ1:St) (x:Bool),CU E call all (os.take n) F σ=some (F1,σ1)->F1.n=N->F1.d=F.d->JB (os.take n) F F1->Aq E F1.ev p.op σ1=some (.bool x,σ1)->DT E call pu N all k g gt hs' os' (fr1.setR d (.bb x)) σ1 K=some r ->
          ∃ fr' F' σ',CU E call all os F σ=some (F',σ')/\Av fr' F'/\Cd all N g gt os F F'/\K fr' σ'=some r:=by
          intro F1 σ1 x a1 a2 a3 a4 a5 a6;have hg1:Dj all g gt F1:=dA hg a4 λo ho d hd=>(j1 o ho d hd).2.1
          have hf1:Av fr1 F1:=bO h2 a4 λo ho d hd=>(j1 o ho d hd).2.2
          have hs1:CR E call all p F1 σ1=some ({ F1 with t:=F1.t.set d (.bool x) },σ1) :=
           Gt (Hz hg1 c1) (.inr ⟨λc hc=>(by rw [hop] at hc;cases hc),λc hc=>(by rw [hop] at hc;cases hc),a5⟩) (by rw [hdst];exact Jm a2 c5)
          obtain ⟨fr2,F2,σ2,h5,h6,h7,h8⟩:=ih _ _ _ _ _ _ _ _ a6 { F1 with t:=F1.t.set d (.bool x) } (L6 (tv:=.bb x) hf1 trivial) a2 (JV hg1 c6);have h9:=Nn (b:=p :: os') a1;rw [IG hs1,<-hos] at h9;refine ⟨fr2,F2,σ2,by rw [h9];exact h5,h6,?_,h8⟩;rw [hos];exact Cd.app ⟨a2,a3,hg1,a4⟩ (Cd.cons (L9 a2 hg1 hdst c6) h7)
         have skip:cb=!w->∃ F1,CU E call all (os.take n) F σ=some (F1,σ)/\F1.n=N/\F1.d=F.d/\JB (os.take n) F F1/\F1.t.get c=some (.bool cb):=by
          intro e;obtain ⟨F1,b1,b2,b3,b4⟩:=QG (E:=E) (call:=call) (σ:=σ) (N:=N) hq hqd (os.take n) [] c7 hN (by rw [h1,e]) (λ_ h=>by cases h) λo ho d hd=>⟨(j2 o ho d hd).1,λe=>Mc (j2 o ho d hd).2.1 e.symm⟩
          exact ⟨F1,b1,b2,b3,b4,by rw [b4 c λo ho hd=>Mc (j2 o ho c hd).2.1 rfl];exact h1⟩
         have hgin:cb=w->Dj all (some (j,w)) (some c) F:=λe=>⟨q,c,hq,hqd,rfl,by rw [h1,e]⟩
         cases w with
         | true =>
          simp only at h3;cases hb:JY b false with
          | false=>rw [hb] at h3;cases h3
          | true =>
           rw [hb] at h3;simp only at h3;cases cb with
           | false =>
            obtain ⟨F1,b1,b2,b3,b4,b5⟩:=skip rfl;refine fin F1 σ false b1 b2 b3 b4 ?_ h3;have e1:F1.ev (.tmp c)=some (.bool false):=b5;rw [hop];simp only [Aq,e1,R6 hb F1];rfl
           | true =>
            rw [YZ] at h3;obtain ⟨x,σ',b1,b2⟩:=Fz h3;obtain ⟨fr2,F2,σ2,b3,b4,b5,b6⟩:=ih _ _ _ _ _ _ _ _ b1 F h2 hN (hgin rfl);obtain ⟨_,x',b7,b8,b9⟩:=FZ b6 b4;cases b9;refine fin F2 σ' x b3 b5.n b5.d b5.same ?_ b2;obtain ⟨q',c',_,_,e1,e2⟩:=b5.g;cases e1;have e1:F2.ev (.tmp c)=some (.bool true):=e2;rw [hop];simp only [Aq,e1,b7];rfl
         | false =>
          simp only at h3;cases hb:JY a true with
          | false=>rw [hb] at h3;cases h3
          | true =>
           rw [hb] at h3;simp only at h3;cases cb with
           | true =>
            obtain ⟨F1,b1,b2,b3,b4,b5⟩:=skip rfl;refine fin F1 σ true b1 b2 b3 b4 ?_ h3;have e1:F1.ev (.tmp c)=some (.bool true):=b5;rw [hop];simp only [Aq,e1,R6 hb F1];rfl
           | false =>
            rw [oV] at h3;obtain ⟨x,σ',b1,b2⟩:=Fz h3;obtain ⟨fr2,F2,σ2,b3,b4,b5,b6⟩:=ih _ _ _ _ _ _ _ _ b1 F h2 hN (hgin rfl);obtain ⟨_,x',b7,b8,b9⟩:=FZ b6 b4;cases b9;refine fin F2 σ' x b3 b5.n b5.d b5.same ?_ b2;obtain ⟨q',c',_,_,e1,e2⟩:=b5.g;cases e1;have e1:F2.ev (.tmp c)=some (.bool false):=e2;rw [hop];simp only [Aq,e1,b7];rfl
      ·cases h
     ·cases h
    ·cases h
   ·cases h
end
theorem Ri: ∀ l:List UInt8,ED l l=true
 | []=>rfl
 | a :: l=>by unfold ED;rw [Nat.beq_refl,Ri l];rfl
theorem lK (k:IntKind):DZ k k=true:=by cases k<;>rfl
mutual
theorem V.beq_refl: ∀ v:V,V.beq v v=true
 | .bool b=>by simp [V.beq]
 | .int k n=>by simp [V.beq,lK]
 | .str s=>by simp [V.beq,Ri]
 | .nilS=>rfl
 | .emp=>rfl
 | .lst xs f=>by simp [V.beq,V.zAa xs]
 | .ref b v o l c=>by cases c<;>simp [V.beq]
 | .ptr0=>rfl
 | .ptr b v o=>by simp [V.beq]
 | .eptr xs i j=>by simp [V.beq,V.zAa xs]
 | .gptr g o=>by simp [V.beq]
 | .map0=>rfl
 | .map b=>by simp [V.beq]
 | .fn0=>rfl
 | .fn f c=>by simp [V.beq,V.zAa c]
 | .if0=>rfl
 | .ifc t x=>by simp [V.beq,V.beq_refl x]
 | .agg a=>by simp [V.beq,V.zAa a]
 | .tup a=>by simp [V.beq,V.zAa a]
 | .opq=>rfl
theorem V.zAa: ∀ l:List V,V.beq.beqs l l=true
 | []=>by simp [V.beq.beqs]
 | x :: xs=>by simp [V.beq.beqs,V.beq_refl x,V.zAa xs]
end
noncomputable section
def k3 (E:Env) (o:Oper):Bool:=Nat.beq (Am E o) 3
def Jl (pu:FuncId->Bool) (op:Op):Bool :=
 match op with
 | .call c=>match c.callee with
  | .value (.func f)=>pu f
  | _=>false
 | _=>false
def G8 (E:Env) (pu:FuncId->Bool):List Oper->List Bool
 | []=>[]
 | o :: r=>bif Nat.beq (Am E o) 2 then Jl pu o.op :: G8 E pu r else G8 E pu r
def Mg (fl:List Bool) (lo hi:Nat):Bool:=((fl.drop lo).take (hi - lo)).all id
def I1 (E:Env) (effs:List (Nat×Nat)) (fl:List Bool):List (Oper×Nat)->Nat->Nat->Bool
 | [],_,_=>true
 | (o,m) :: r,i,t=>match Am E o with
  | 0 | 3=>I1 E effs fl r (i+1) t
  | 1=>Nat.ble (Ck m effs) t&&Nat.ble t (Co i effs)&&Mg fl (Ck m effs) (Co i effs)&&I1 E effs fl r (i+1) t
  | 2=>I1 E effs fl r (i+1) (t+1)
  | _=>false
def QV (E:Env) (pu:FuncId->Bool) (ops:List Oper):Bool :=
 let om:=Ba ops
 I1 E (BU E om 0) (G8 E pu ops) om 0 0
section
variable {R:Type}
def Ku (E:Env) (call:Call) (pu:FuncId->Bool) (o:Oper) (fr:SF) (σ:St) (K:Kt R):Option R :=
 match o.op with
 | .call c=>Ld E call pu c fr σ K
 | .defer _=>none
 | op=>opS E fr op σ K
def Lg (E:Env) (call:Call) (pu:FuncId->Bool) (o:Oper) (fr:SF) (v:V) (lo:Nat):Nat->List St->Option R->Option R
 | _,[],X=>X
 | t,σ :: ps,X=>bC (Nat.blt t lo) (X) (Ku E call pu o fr σ λ_ tv _=>gd (V.beq v tv.toV) (match t with | 0=>X | t+1=>Lg E call pu o fr v lo t ps X))
def JM (E:Env) (call:Call) (pu:FuncId->Bool) (t1:Nat) (σ:St):List (Oper×SF×V×Nat)->Option R->Option R
 | [],X=>X
 | (o,fr,v,hi) :: r,X=>bC (Nat.blt hi t1) (JM E call pu t1 σ r X) (Ku E call pu o fr σ λ_ tv _=>gd (V.beq v tv.toV) (JM E call pu t1 σ r X))
abbrev FI:=List (Oper×SF×V×Nat)
def ifB (x:Bool) (X Y:Option R):Option R:=Bool.rec Y X x
def Ll (E:Env) (call:Call) (pu:FuncId->Bool) (N:Nat) (effs:List (Nat×Nat)) (o:Oper) (m i t:Nat) (σ:St) (ps:List St) (pend:FI) (next:Nat->SF->List St->FI->Option R) (gt:Option Nat) (fr:SF):Option R :=
 match Am E o with
 | 3=>next t fr (σ :: ps) pend
 | 0=>Cs E call pu N gt o fr σ λfr _=>next t fr (σ :: ps) pend
 | 1=>Ku E call pu o fr σ λfr1 tv _=>(match t with
  | 0=>EN N gt o.dst fr1 tv σ λfr2 _=>next t fr2 (σ :: ps) ((o,fr1,tv.toV,Co i effs) :: pend)
  | t'+1=>Lg E call pu o fr1 tv.toV (Ck m effs) t' ps (EN N gt o.dst fr1 tv σ λfr2 _=>next t fr2 (σ :: ps) ((o,fr1,tv.toV,Co i effs) :: pend)))
 | 2=>Cs E call pu N gt o fr σ λfr σ'=>JM E call pu (t+1) σ' pend (next (t+1) fr (σ' :: σ :: ps) pend)
 | _=>none
def Og (E:Env) (call:Call) (pu:FuncId->Bool) (N:Nat) (o:Oper) (t:Nat) (σ:St) (ps:List St) (pend:FI) (next:Nat->SF->List St->FI->Option R) (gt:Option Nat) (fr:SF):Option R :=
 match Am E o with
 | 0 | 1=>EN N gt o.dst fr Dh σ λfr2 _=>next t fr2 (σ :: ps) pend
 | 2=>EN N gt o.dst fr Dh σ λfr2 _=>JM E call pu (t+1) σ pend (next (t+1) fr2 (σ :: σ :: ps) pend)
 | _=>none
def PG (all:List Oper) (fr:SF) (g:Option (Nat×Bool)) (run skip:Option Nat->SF->Option R):Option R :=
 match g with
 | some (j,want)=>match all[j]? with
  | some q=>match q.dst with
   | some c=>Eu fr (.tmp c) λfr x=>ifB x (bC want (run (some c) (fr.setR c (.bb true))) (skip (some c) (fr.setR c (.bb true)))) (bC want (skip (some c) (fr.setR c (.bb false))) (run (some c) (fr.setR c (.bb false))))
   | none=>none
  | none=>none
 | none=>none
def Gw (E:Env) (call:Call) (pu:FuncId->Bool) (N:Nat) (all:List Oper) (effs:List (Nat×Nat)) (K:SF->St->Option R):List (Oper×Nat)->Nat->Nat->SF->List St->FI->Option R
 | [],_,_,fr,ss,_=>match ss with
  | σ :: _=>K fr σ
  | []=>none
 | (o,m) :: r,i,t,fr,ss,pend=>match ss with
  | σ :: ps=>bC (Cz none o.guard) (Ll E call pu N effs o m i t σ ps pend (λt fr ss pend=>Gw E call pu N all effs K r (i+1) t fr ss pend) none fr)
   (PG all fr o.guard (Ll E call pu N effs o m i t σ ps pend λt fr ss pend=>Gw E call pu N all effs K r (i+1) t fr ss pend) (Og E call pu N o t σ ps pend λt fr ss pend=>Gw E call pu N all effs K r (i+1) t fr ss pend))
  | []=>none
def Od (E:Env) (call:Call) (pu:FuncId->Bool) (N:Nat) (h3:List SH) (ops:List Oper) (fr:SF) (σ:St) (K:SF->St->Option R):Option R :=
 DT E call pu N ops 10000 none none h3 (ops.filter (k3 E)) fr σ λfr σ=>Gw E call pu N ops (BU E (Ba ops) 0) K (Ba ops) 0 0 fr [σ] []
end
def Oe (E:Env) (call:Call) (pu:FuncId->Bool) (N:Nat) (h3 hs:List SH) (ops:List Oper) {R:Type} (fr:SF) (σ:St) (K:SF->St->Option R):Option R :=
 bC (QV E pu ops) (DT E call pu N ops 10000 none none h3 (ops.filter (k3 E)) fr σ λfr σ=>DT E call pu N ops 10000 none none hs (ops.filter λo=>!k3 E o) fr σ K) (none)
end
section
variable {E:Env} {call:Call} {pu:FuncId->Bool} {all:List Oper}
theorem PV {σ σ':St} {x:Option V} {v:V} (h:keep σ x=some (v,σ')):x=some v/\σ'=σ:=by
 cases x<;>cases h
 exact ⟨rfl,rfl⟩
theorem Y9 {t:TypeId} {n:Nat} {l:List (Nat×V)} {σ σ':St} {v:V} (hw:E.wlit t=false) (h:Cq E t n l σ=some (v,σ')):σ'=σ:=by
 unfold Cq at h;simp only [hw] at h
 repeat' split at h
 all_goals first | (cases h;done) | (cases h;rfl) | skip
 all_goals (rename_i hh;cases hh)
theorem YK {o:Oper} (hk:Am E o=0\/Am E o=1) (hc: ∀ c,o.op≠.call c) {ev:Operand->Option V} {σ σ':St} {v:V} (h:Aq E ev o.op σ=some (v,σ')):σ'=σ:=by
 unfold Am at hk;unfold Aq at h;cases ho:o.op with
 | call c=>exact absurd ho (hc c)
 | buildSlice t n ps =>
  rw [ho] at hk h;simp only at hk h;have hw:E.wlit t=false:=by
   cases hw:E.wlit t with
   | false=>rfl
   | true=>rw [hw] at hk;simp at hk
  split at h
  ·exact Y9 hw h
  ·cases h
 | alloc t=>rw [ho] at hk;simp only at hk;split at hk<;>omega
 | makeSlice=>rw [ho] at hk;simp only at hk;split at hk<;>omega
 | box=>rw [ho] at hk;simp only at hk;split at hk<;>omega
 | convert s d x =>
  rw [ho] at hk h;simp only at hk h;have hns:FB E s d=false:=by
   cases hs:FB E s d with
   | false=>rfl
   | true=>rw [hs] at hk;simp at hk
  rw [hns] at h;split at h
  ·exact (PV h).2
  ·cases h
 | makeMap t r=>rw [ho] at hk;cases r<;>(simp only at hk;try split at hk)<;>omega
 | _ =>
  rw [ho] at hk h;simp only at hk h
  first
  | omega
  | (repeat' split at h)<;>first | (cases h;done) | exact (PV h).2 | (cases h;rfl)
theorem ZE {b:Builtin} (hb:b=.len\/b=.cap\/b=.min\/b=.max) {ts:List TypeId} {vs:List V} {σ σ':St} {v:V} (h:DC E b ts vs σ=some (v,σ')):σ'=σ:=by
 unfold DC at h;rcases hb with rfl | rfl | rfl | rfl<;>(split at h<;>first | (cases h;done) | exact (PV h).2 | (rename_i hh;cases hh))
theorem Nq {o:Oper} (hk:Am E o=0\/Am E o=1) {F F':Fr} {σ σ':St} (h:CR E call all o F σ=some (F',σ')):σ'=σ:=by
 unfold CR at h;split at h
 ·unfold Fl at h;split at h
  ·rename_i c hop;split at h
   ·rename_i vs hvs;simp only at h;split at h
    ·rename_i v σ1 hr;split at h
     ·cases h;cases hcal:c.callee with
      | builtin b =>
       rw [hcal] at hr;simp only at hr;have hb:b=.len\/b=.cap\/b=.min\/b=.max:=by
        unfold Am at hk;rw [hop] at hk;simp only [hcal] at hk;cases b<;>simp at hk<;>simp
       exact ZE hb hr
      | invoke a b=>rw [hcal] at hr;cases hr
      | value f =>
       have hk2:Am E o=2:=by unfold Am;rw [hop];simp only [hcal]
       omega
     ·cases h
    ·cases h
   ·cases h
  ·rename_i c hop;have hk4:Am E o=4:=by unfold Am;rw [hop]
   omega
  ·rename_i n1 n2;split at h
   ·rename_i v σ1 hv;split at h
    ·cases h;exact YK hk (λc hc=>n1 c hc) hv
    ·cases h
   ·cases h
 ·split at h
  ·cases h;rfl
  ·cases h
 ·cases h
theorem YH (hp:Dk pu call) {o:Oper} (hc:Jl pu o.op=true) {F F':Fr} {σ σ':St} (h:CR E call all o F σ=some (F',σ')):σ'=σ:=by
 unfold Jl at hc;split at hc
 ·rename_i c hop;split at hc
  ·rename_i f hcal;unfold CR at h;split at h
   ·unfold Fl at h;rw [hop] at h;simp only at h;split at h
    ·rename_i vs hvs;simp only [hcal] at h;have:F.ev (.func f)=some (.fn f []):=rfl;rw [this] at h;simp only at h;split at h
     ·rename_i v σ1 hr;split at h
      ·cases h;exact hp f hc _ _ _ _ hr
      ·cases h
     ·cases h
    ·cases h
   ·split at h
    ·cases h;rfl
    ·cases h
   ·cases h
  ·cases hc
 ·cases hc
theorem MC: ∀ (l:List Oper) {F F':Fr} {σ σ':St},CU E call all (l.filter (k3 E)) F σ=some (F',σ')->HV E l F σ=some (F',σ')
 | [],F,F',σ,σ',h=>h
 | o :: l,F,F',σ,σ',h=>by
  unfold HV;cases hk:k3 E o with
  | false =>
   rw [List.filter_cons_of_neg (by simp [hk])] at h;have hk':Nat.beq (Am E o) 3=false:=hk;rw [hk'];exact MC l h
  | true =>
   rw [List.filter_cons_of_pos hk] at h;have hk':Nat.beq (Am E o) 3=true:=hk;rw [hk'];simp only [if_true];have hk3:=Nat.eq_of_beq_eq_true hk';rw [CU] at h;split at h
   ·rename_i F1 σ1 hs;have hop:(∀ c,o.op≠.call c)/\(∀ c,o.op≠.defer c)/\o.guard=none:=by
     refine ⟨λc e=>?_,λc e=>?_,?_⟩
     ·unfold Am at hk3;rw [e] at hk3;simp only at hk3;cases hcal:c.callee with
      | builtin b=>rw [hcal] at hk3;cases b<;>simp at hk3
      | value f=>rw [hcal] at hk3;simp at hk3
      | invoke a b=>rw [hcal] at hk3;simp at hk3
     ·unfold Am at hk3;rw [e] at hk3;simp at hk3
     ·cases hg:o.guard with
      | none=>rfl
      | some p =>
       unfold Am at hk3;rw [hg] at hk3;split at hk3<;>first | omega | (simp at hk3;done) | (split at hk3<;>first | omega | (simp at hk3;done) | (split at hk3<;>omega)) | skip
    obtain ⟨n1,n2,n3⟩:=hop;unfold CR Ch at hs;rw [n3] at hs;simp only at hs;unfold Fl at hs;split at hs
    ·rename_i c hc;exact absurd hc (n1 c)
    ·rename_i c hc;exact absurd hc (n2 c)
    ·split at hs
     ·rename_i v σ2 hv;split at hs
      ·rename_i F2 hput;cases hs
       try simp only [hv,hput]
       exact MC l h
      ·cases hs
     ·cases hs
   ·cases h
theorem U2 {fl:List Bool} {lo hi j:Nat} (h:Mg fl lo hi=true) (h1:lo<=j) (h2:j<hi) {b:Bool} (hb:fl[j]? = some b):b=true:=by
 unfold Mg at h;have:b∈(fl.drop lo).take (hi - lo):=by
  refine List.mem_of_getElem? (i:=j - lo) ?_;rw [List.getElem?_take,if_pos (by omega),List.getElem?_drop,show lo+(j - lo)=j by omega];exact hb
 exact List.all_eq_true.1 h b this
def Nh (fl:List Bool):Nat->St->List St->Prop
 | 0,_,[]=>True
 | t+1,σ,q :: ps=>(fl[t]? = some true->q=σ)/\(∃ b,fl[t]? = some b)/\Nh fl t q ps
 | _,_,_=>False
theorem VM {p:Ex} {lo hi:Nat} {fl:List Bool} (hpi:Mg fl lo hi=true): ∀ (t:Nat) (σ:St) (ps:List St),t<=hi->Nh fl t σ ps->Df E p σ=true->E8 E p lo t (σ :: ps)=true
 | 0,σ,ps,_,_,hs=>by
  unfold E8
  split
  ·rfl
  ·rw [hs];rfl
 | t+1,σ,[],_,hp,_=>hp.elim
 | t+1,σ,q :: ps,ht,hp,hs=>by
  unfold E8
  split
  ·rfl
  ·rename_i hlt;rw [hs];simp only [Bool.true_and];by_cases hlo:lo<=t
   ·obtain ⟨h1,⟨b,h2⟩,h3⟩:=hp;have hb:=U2 hpi hlo (by omega) h2;subst hb;have e:=h1 h2;subst e;exact VM hpi t q ps (by omega) h3 hs
   ·unfold E8;rw [if_pos (Nat.blt_eq.mpr (by omega))]
def YB (E:Env) (fl:List Bool) (t:Nat) (σ:St) (p:Ex):Prop:=p.hi<=t\/(Df E p σ=true/\∀ j b,t<=j->j<p.hi->fl[j]? = some b->b=true)
theorem JO (hp:Dk pu call) {effs:List (Nat×Nat)} {fl:List Bool}: ∀ (r:List (Oper×Nat)) (i:Nat) (d:DS) {F':Fr} {σ σ':St} {ps:List St},I1 E effs fl r i d.t=true->fl.drop d.t=G8 E pu (r.map (·.1))->d.past=σ :: ps->Nh fl d.t σ ps->(∀ p∈d.pend,YB E fl d.t σ p) ->
 CU E call all ((r.map (·.1)).filter λo=>!k3 E o) d.fr σ=some (F',σ')->∃ d',Ei E call all effs r i d=some d'/\d'.fr=F'/\∃ ps,d'.past=σ' :: ps
 | [],i,d,F',σ,σ',ps,_,_,hps,_,_,h=>by cases h;exact ⟨d,rfl,rfl,ps,hps⟩
 | (o,m) :: r,i,d,F',σ,σ',ps,ht,hfl,hps,hpast,hpe,h=>by
  simp only [List.map_cons] at h hfl;cases hk:k3 E o with
  | true =>
   rw [List.filter_cons_of_neg (by simp [hk])] at h;have hk3:=Nat.eq_of_beq_eq_true (show Nat.beq (Am E o) 3=true from hk);have hs:DE E call all effs i o m d=some d:=by unfold DE;rw [hps,hk3];rfl
   unfold I1 at ht;rw [hk3] at ht;unfold G8 at hfl;rw [hk3] at hfl;obtain ⟨d',h2,h3⟩:=JO hp r (i+1) d ht hfl hps hpast hpe h;exact ⟨d',by unfold Ei;rw [hs];exact h2,h3⟩
  | false =>
   rw [List.filter_cons_of_pos (by simp [hk])] at h;rw [CU] at h;split at h
   ·rename_i F1 σ1 hst;unfold I1 at ht;unfold G8 at hfl;split at ht
    ·rename_i hk0;have e:=Nq (.inl hk0) hst;subst e;rw [hk0] at hfl;obtain ⟨d',h2,h3⟩:=JO hp r (i+1) { d with fr:=F1 } ht hfl hps hpast hpe h;refine ⟨d',?_,h3⟩;unfold Ei;rw [show DE E call all effs i o m d=some { d with fr:=F1 } by unfold DE;rw [hps,hk0];simp only [hst]];exact h2
    ·rename_i hk3;unfold k3 at hk;rw [hk3] at hk;cases hk
    ·rename_i hk1;have e:=Nq (.inr hk1) hst;subst e;rw [hk1] at hfl;simp only [Bool.and_eq_true] at ht;obtain ⟨⟨⟨ht0,ht1⟩,ht2⟩,ht3⟩:=ht;have ht0:=Nat.le_of_ble_eq_true ht0;have ht1:=Nat.le_of_ble_eq_true ht1;have hst':=hst;unfold CR at hst;split at hst
     ·rename_i hw;have hr: ∃ v,Gf E o d.fr σ1=some v/\d.fr.put o.dst v=some F1:=by
       unfold Fl at hst;split at hst
       ·rename_i c hop;split at hst
        ·rename_i vs hvs;simp only at hst;split at hst
         ·rename_i v σ2 hrv;split at hst
          ·rename_i F2 hput;cases hst;refine ⟨v,?_,hput⟩;unfold Gf;rw [hop];simp only [hvs];cases hcal:c.callee with
           | builtin b=>rw [hcal] at hrv;simp only at hrv ⊢;rw [hrv]
           | value f=>unfold Am at hk1;rw [hop] at hk1;simp only [hcal] at hk1;cases hk1
           | invoke a b=>rw [hcal] at hrv;cases hrv
          ·cases hst
         ·cases hst
        ·cases hst
       ·rename_i c hop;unfold Am at hk1;rw [hop] at hk1;cases hk1
       ·rename_i n1 n2;split at hst
        ·rename_i v σ2 hv;split at hst
         ·rename_i F2 hput;cases hst;refine ⟨v,?_,hput⟩;unfold Gf
          split
          ·rename_i c hop;exact absurd hop (n1 c)
          ·rw [hv]
         ·cases hst
        ·cases hst
      obtain ⟨v,hv,hput⟩:=hr;have hsame:Df E { o:=o,fr:=d.fr,v:=v,hi:=Co i effs } σ1=true:=by
       unfold Df;simp only [hv];exact V.beq_refl v
      obtain ⟨d',h2,h3⟩:=JO hp r (i+1) { d with fr:=F1,pend:={ o:=o,fr:=d.fr,v:=v,hi:=Co i effs } :: d.pend } ht3 hfl hps hpast (λp hp=>by
       rcases List.mem_cons.1 hp with rfl | hp
       ·refine .inr ⟨hsame,λj b h1 h2 hb=>?_⟩;have h1:d.t<=j:=h1;exact U2 ht2 (by omega) h2 hb
       ·exact hpe p hp) h
      refine ⟨d',?_,h3⟩;unfold Ei;have:DE E call all effs i o m d=some { d with fr:=F1,pend:={ o:=o,fr:=d.fr,v:=v,hi:=Co i effs } :: d.pend }:=by
       unfold DE;rw [hps,hk1];simp only [hw,hv,hput];rw [if_pos (VM ht2 _ _ _ ht1 hpast hsame)]
      rw [this];exact h2
     ·rename_i hw;split at hst
      ·rename_i F2 hput;cases hst;obtain ⟨d',h2,h3⟩:=JO hp r (i+1) { d with fr:=F1 } ht3 hfl hps hpast hpe h;refine ⟨d',?_,h3⟩;unfold Ei;rw [show DE E call all effs i o m d=some { d with fr:=F1 } by unfold DE;rw [hps,hk1];simp only [hw,hput]];exact h2
      ·cases hst
     ·cases hst
    ·rename_i hk2;rw [hk2] at hfl;have hfl:fl.drop d.t=Jl pu o.op :: G8 E pu (r.map (·.1)):=hfl;have hget:fl[d.t]? = some (Jl pu o.op):=by
      have:=congrArg (λl=>l[0]?) hfl;simpa using this
     have hpure:fl[d.t]? = some true->σ=σ1:=λe=>by
      rw [hget] at e;have e:Jl pu o.op=true:=by simpa using e
      exact (YH hp e hst).symm
     obtain ⟨d',h2,h3⟩:=JO hp r (i+1) { fr:=F1,past:=σ1 :: σ :: ps,t:=d.t+1,pend:=d.pend } (ps:=σ :: ps) ht (by
      have:fl.drop (d.t+1)=(fl.drop d.t).drop 1:=by rw [List.drop_drop]
      simp only [this,hfl,List.drop_succ_cons,List.drop_zero]) rfl ⟨hpure,⟨_,hget⟩,hpast⟩ (λp hp=>by
      rcases hpe p hp with h1 | ⟨h1,h2⟩
      ·exact .inl (by show p.hi<=d.t+1;omega)
      ·by_cases hlt:p.hi<=d.t
       ·exact .inl (by show p.hi<=d.t+1;omega)
       ·have hb:=h2 d.t _ (Nat.le_refl _) (by omega) hget;have e:=hpure (by rw [hget,hb]);refine .inr ⟨e▸h1,λj b hj=>h2 j b (by have:d.t+1<=j:=hj;omega)⟩) h
     refine ⟨d',?_,h3⟩;unfold Ei;have:DE E call all effs i o m d=some { fr:=F1,past:=σ1 :: σ :: ps,t:=d.t+1,pend:=d.pend }:=by
      unfold DE;rw [hps,hk2];simp only [hst];rw [if_pos];rw [List.all_eq_true];intro p hp;rw [Bool.or_eq_true];rcases hpe p hp with h1 | ⟨h1,h2⟩
      ·exact .inl (Nat.blt_eq.mpr (by omega))
      ·by_cases hlt:p.hi<=d.t
       ·exact .inl (Nat.blt_eq.mpr (by omega))
       ·have hb:=h2 d.t _ (Nat.le_refl _) (by omega) hget;have e:=hpure (by rw [hget,hb]);exact .inr (e▸h1)
     rw [this];exact h2
    ·cases ht
   ·cases h
theorem yF (l:List Oper) (ms:List Nat) (h:ms.length=l.length):(l.zip ms).map (·.1)=l:=by
 induction l generalizing ms with
 | nil=>simp
 | cons o l ih =>
  cases ms with
  | nil=>simp at h
  | cons m ms=>simp only [List.zip_cons_cons,List.map_cons,ih ms (by simpa using h)]
theorem UL: ∀ (l:List Oper) (i:Nat) (t:PT Nat),(EY l i t).length=l.length
 | [],_,_=>rfl
 | o :: l,i,t=>by unfold EY;simp [UL l]
theorem Z6 (hp:Dk pu call) {ops:List Oper} (hc:QV E pu ops=true) {F F1 F2:Fr} {σ σ1 σ2:St} (h1:CU E call ops (ops.filter (k3 E)) F σ=some (F1,σ1)) (h2:CU E call ops (ops.filter λo=>!k3 E o) F1 σ1=some (F2,σ2)) :
 Cw E call ops F σ=some (F2,σ2):=by
 unfold Cw;simp only [MC ops h1];have hz:(Ba ops).map (·.1)=ops:=yF ops _ (UL ops 0 .leaf)
 obtain ⟨d',h3,h4,ps,h5⟩:=JO hp (effs:=BU E (Ba ops) 0) (fl:=G8 E pu ops) (Ba ops) 0 { fr:=F1,past:=[σ1],t:=0,pend:=[] } (σ:=σ1) (σ':=σ2) (F':=F2) (ps:=[])
  hc (by rw [hz];rfl) rfl trivial (λ_ h=>by cases h) (by rw [hz];exact h2)
 rw [h3];simp only [h5,h4]
theorem Z4 (hp:Dk pu call) {N:Nat} {h3 hs:List SH} {ops:List Oper} {R:Type} {fr:SF} {σ:St} {K:SF->St->Option R} {r:R} (h:Oe E call pu N h3 hs ops fr σ K=some r) {F:Fr} (hf:Av fr F) (hN:F.n=N) :
 ∃ fr' F' σ',Cw E call ops F σ=some (F',σ')/\Av fr' F'/\F'.n=N/\F'.d=F.d/\K fr' σ'=some r:=by
 unfold Oe at h;cases hc:QV E pu ops with
 | false=>rw [hc] at h;cases h
 | true =>
  rw [hc] at h;simp only [bC] at h;obtain ⟨fr1,F1,σ1,a1,a2,a3,a4⟩:=Mk hp _ _ _ _ _ _ _ _ _ h F hf hN trivial;obtain ⟨fr2,F2,σ2,b1,b2,b3,b4⟩:=Mk hp _ _ _ _ _ _ _ _ _ a4 F1 a2 a3.n trivial;exact ⟨fr2,F2,σ2,Z6 hp hc a1 b1,b2,b3.n,b3.d.trans a3.d,b4⟩
def Lt (E:Env) (call:Call) (F:Fr) (o:Oper) (σ:St):Option (V×St) :=
 match o.op with
 | .call c=>IQ E call F c σ
 | .defer _=>none
 | op=>Aq E F.ev op σ
theorem P7 {R:Type} (hp:Dk pu call) {o:Oper} {fr:SF} {σ:St} {K:Kt R} {r:R} (h:Ku E call pu o fr σ K=some r) {F:Fr} (hf:Av fr F):Dx E F (Lt E call F o σ) K r:=by
 unfold Ku at h;unfold Lt;split at h
 ·exact Rs hp h hf
 ·cases h
 ·exact Uj h hf
theorem Lu {o:Oper} (hk:Am E o=1) {F:Fr} {σ σ':St} {v:V} (h:Lt E call F o σ=some (v,σ')):Gf E o F σ=some v:=by
 unfold Lt at h;unfold Gf;split at h
 ·rename_i c hop;rw [hop];simp only;unfold IQ at h;split at h
  ·rename_i vs hvs;simp only [hvs];cases hcal:c.callee with
   | builtin b=>rw [hcal] at h;simp only at h ⊢;rw [h]
   | value f=>unfold Am at hk;rw [hop] at hk;simp only [hcal] at hk;cases hk
   | invoke a b=>rw [hcal] at h;cases h
  ·cases h
 ·cases h
 ·rename_i n1 n2
  split
  ·rename_i c hc;exact absurd hc (n1 c)
  ·rw [h]
theorem Rz {R:Type} (hp:Dk pu call) {o:Oper} (hk:Am E o=1) {fr:SF} {F:Fr} (hf:Av fr F) {v:V} {lo hi:Nat} {X:Option R} {r:R}: ∀ (ps:List St) (t:Nat),Lg E call pu o fr v lo t ps X=some r->E8 E ⟨o,F,v,hi⟩ lo t ps=true/\X=some r
 | [],t,h=>⟨by cases t<;>rfl,by cases t<;>exact h⟩
 | σ :: ps,t,h=>by
  unfold Lg at h;unfold E8;cases hb:Nat.blt t lo with
  | true=>rw [hb] at h;exact ⟨by rfl,h⟩
  | false =>
   rw [hb] at h;simp only [bC] at h;obtain ⟨fr1,tv,σ1,h1,_,_,h4⟩:=P7 hp h hf;obtain ⟨h5,h6⟩:=CO h4;have hs:Df E ⟨o,F,v,hi⟩ σ=true:=by
    unfold Df;simp only [Lu hk h1];exact h5
   rw [hs];cases t with
   | zero=>exact ⟨rfl,h6⟩
   | succ t =>
    obtain ⟨h7,h8⟩:=Rz hp hk hf (hi:=hi) ps t h6;exact ⟨by simp only [Bool.false_eq_true,if_false,Bool.true_and];exact h7,h8⟩
def YA (E:Env) (q:Oper×SF×V×Nat) (p:Ex):Prop:=p.o=q.1/\Am E q.1=1/\Av q.2.1 p.fr/\p.v=q.2.2.1/\p.hi=q.2.2.2
inductive Gq (E:Env):List (Oper×SF×V×Nat)->List Ex->Prop
 | nil:Gq E [] []
 | cons (q:Oper×SF×V×Nat) (p:Ex) (l:List (Oper×SF×V×Nat)) (l':List Ex):YA E q p->Gq E l l'->Gq E (q :: l) (p :: l')
theorem Lh {R:Type} (hp:Dk pu call) {t1:Nat} {σ:St} {X:Option R} {r:R}: ∀ {l:List (Oper×SF×V×Nat)} {l':List Ex},Gq E l l'->JM E call pu t1 σ l X=some r->(l'.all λp=>Nat.blt p.hi t1||Df E p σ)=true/\X=some r
 | _,_,.nil,h=>⟨rfl,h⟩
 | _,_,.cons q p l l' hq hl,h=>by
  obtain ⟨o,fr,v,hi⟩:=q;obtain ⟨q1,q2,q3,q4,q5⟩:=hq;unfold JM at h;simp only at q1 q2 q3 q4 q5;cases hb:Nat.blt hi t1 with
  | true =>
   rw [hb] at h;obtain ⟨h1,h2⟩:=Lh hp hl h;exact ⟨by rw [List.all_cons,q5,hb,h1];rfl,h2⟩
  | false =>
   rw [hb] at h;simp only [bC] at h;obtain ⟨fr1,tv,σ1,h1,_,_,h4⟩:=P7 hp h q3;obtain ⟨h5,h6⟩:=CO h4;obtain ⟨h7,h8⟩:=Lh hp hl h6;have hs:Df E p σ=true:=by
    unfold Df;rw [q1,Lu q2 h1,q4];exact h5
   exact ⟨by rw [List.all_cons,hs,h7,Bool.or_true];rfl,h8⟩
def EK (E:Env) (call:Call) (all:List Oper) (N:Nat) (effs:List (Nat×Nat)) (i:Nat) (o:Oper) (m:Nat) (d:DS) {R:Type} (next:Nat->SF->List St->FI->Option R) (r0:R):Prop :=
 ∃ d' fr' pend',DE E call all effs i o m d=some d'/\next d'.t fr' d'.past pend'=some r0/\Av fr' d'.fr/\d'.fr.n=N/\d'.fr.d=d.fr.d/\Gq E pend' d'.pend
theorem SE {R:Type} (hp:Dk pu call) {N:Nat} {effs:List (Nat×Nat)} {o:Oper} {m i:Nat} {σ:St} {ps:List St} {pend:FI} {next:Nat->SF->List St->FI->Option R} {r0:R} {g:Option (Nat×Bool)} {gt:Option Nat} {fr:SF} {d:DS}
 (h:Ll E call pu N effs o m i d.t σ ps pend next gt fr=some r0) (hps:d.past=σ :: ps) (hf:Av fr d.fr) (hN:d.fr.n=N) (hpe:Gq E pend d.pend) (hg:Dj all g gt d.fr) (hgd:Cz g o.guard=true):EK E call all N effs i o m d next r0:=by
 unfold Ll at h;split at h
 ·rename_i hk;refine ⟨d,fr,pend,?_,by rw [hps];exact h,hf,hN,rfl,hpe⟩;unfold DE;rw [hps,hk];rfl
 ·rename_i hk;obtain ⟨fr1,F1,σ1,h1,h2,h3,h4⟩:=Pk (all:=all) (g:=g) hp h hf hN hg hgd;have e:=Nq (.inl hk) h1;refine ⟨{ d with fr:=F1 },fr1,pend,?_,by rw [<-hps] at h4;exact h4,h2,h3.n,h3.d,hpe⟩;unfold DE;rw [hps,hk];simp only [h1]
 ·rename_i hk;obtain ⟨fr1,tv,σ1,h1,h2,h3,h4⟩:=P7 hp h hf;have key:E8 E ⟨o,d.fr,tv.toV,Co i effs⟩ (Ck m effs) d.t (σ :: ps)=true/\(EN N gt o.dst fr1 tv σ λfr2 _=>next d.t fr2 (σ :: ps) ((o,fr1,tv.toV,Co i effs) :: pend))=some r0:=by
   have hs:Df E ⟨o,d.fr,tv.toV,Co i effs⟩ σ=true:=by
    unfold Df;simp only [Lu hk h1];exact V.beq_refl _
   unfold E8;split at h4
   ·rename_i ht;refine ⟨?_,h4⟩
    split
    ·rfl
    ·rw [hs,ht];rfl
   ·rename_i t' ht;obtain ⟨h5,h6⟩:=Rz hp hk h3 (hi:=Co i effs) ps t' h4;refine ⟨?_,h6⟩
    split
    ·rfl
    ·rw [hs,ht];exact h5
  obtain ⟨key1,key2⟩:=key;obtain ⟨fr2,F2,h5,h6,h7,h8⟩:=Hm (all:=all) (g:=g) key2 h3 hN hg h2 (o:=o) rfl;refine ⟨{ d with fr:=F2,pend:=⟨o,d.fr,tv.toV,Co i effs⟩ :: d.pend },fr2,(o,fr1,tv.toV,Co i effs) :: pend,?_,by rw [<-hps] at h8;exact h8,h6,h7.n,h7.d,.cons _ _ _ _ ⟨rfl,hk,h3,rfl,rfl⟩ hpe⟩;have hw:Ch all o d.fr=some true:=Hz hg hgd;unfold DE;rw [hps,hk];simp only [hw,Lu hk h1,h5];rw [if_pos key1]
 ·rename_i hk;obtain ⟨fr1,F1,σ1,h1,h2,h3,h4⟩:=Pk (all:=all) (g:=g) hp h hf hN hg hgd;obtain ⟨h5,h6⟩:=Lh hp hpe h4;refine ⟨{ fr:=F1,past:=σ1 :: σ :: ps,t:=d.t+1,pend:=d.pend },fr1,pend,?_,h6,h2,h3.n,h3.d,hpe⟩;unfold DE;rw [hps,hk];simp only [h1];rw [if_pos h5]
 ·cases h
theorem Z5 {R:Type} (hp:Dk pu call) {N:Nat} {effs:List (Nat×Nat)} {o:Oper} {m i:Nat} {σ:St} {ps:List St} {pend:FI} {next:Nat->SF->List St->FI->Option R} {r0:R} {g:Option (Nat×Bool)} {gt:Option Nat} {fr:SF} {d:DS}
 (h:Og E call pu N o d.t σ ps pend next gt fr=some r0) (hps:d.past=σ :: ps) (hf:Av fr d.fr) (hN:d.fr.n=N) (hpe:Gq E pend d.pend) (hg:Dj all g gt d.fr) (hw:Ch all o d.fr=some false):EK E call all N effs i o m d next r0:=by
 have hst: ∀ {F1:Fr},d.fr.put o.dst (.tup [])=some F1->CR E call all o d.fr σ=some (F1,σ):=λe=>by
  unfold CR;rw [hw];simp only [e]
 unfold Og at h;split at h
 ·rename_i hk;obtain ⟨fr2,F2,h5,h6,h7,h8⟩:=Hm (all:=all) (g:=g) h hf hN hg (λh=>by cases h) (o:=o) rfl;refine ⟨{ d with fr:=F2 },fr2,pend,?_,by rw [<-hps] at h8;exact h8,h6,h7.n,h7.d,hpe⟩;unfold DE;rw [hps,hk];simp only [hst h5]
 ·rename_i hk;obtain ⟨fr2,F2,h5,h6,h7,h8⟩:=Hm (all:=all) (g:=g) h hf hN hg (λh=>by cases h) (o:=o) rfl;refine ⟨{ d with fr:=F2 },fr2,pend,?_,by rw [<-hps] at h8;exact h8,h6,h7.n,h7.d,hpe⟩;have h5:d.fr.put o.dst (.tup [])=some F2:=h5;unfold DE;rw [hps,hk];simp only [hw,h5]
 ·rename_i hk;obtain ⟨fr2,F2,h5,h6,h7,h8⟩:=Hm (all:=all) (g:=g) h hf hN hg (λh=>by cases h) (o:=o) rfl;obtain ⟨h9,h10⟩:=Lh hp hpe h8;refine ⟨{ fr:=F2,past:=σ :: σ :: ps,t:=d.t+1,pend:=d.pend },fr2,pend,?_,h10,h6,h7.n,h7.d,hpe⟩;unfold DE;rw [hps,hk];simp only [hst h5];rw [if_pos h9]
 ·cases h
theorem dI {R:Type} {fr:SF} {o:Oper} {run skip:Option Nat->SF->Option R} {r0:R} {F:Fr} (h:PG all fr o.guard run skip=some r0) (hf:Av fr F) :
 ∃ c fr',Av fr' F/\((Dj all o.guard (some c) F/\run (some c) fr'=some r0)\/(Ch all o F=some false/\skip (some c) fr'=some r0)):=by
 unfold PG at h;split at h
 ·rename_i j want hgd;split at h
  ·rename_i q hq;split at h
   ·rename_i c hc;obtain ⟨fr1,x,h1,h2,h3⟩:=FZ h hf;have h1:F.t.get c=some (.bool x):=h1;cases x with
    | true =>
     have hf2:Av (fr1.setR c (.bb true)) F:=h2.set h1 trivial;cases want with
     | true=>exact ⟨c,_,hf2,.inl ⟨by rw [hgd];exact ⟨q,c,hq,hc,rfl,h1⟩,h3⟩⟩
     | false=>exact ⟨c,_,hf2,.inr ⟨by unfold Ch;rw [hgd];simp only [hq,hc,h1];rfl,h3⟩⟩
    | false =>
     have hf2:Av (fr1.setR c (.bb false)) F:=h2.set h1 trivial;cases want with
     | false=>exact ⟨c,_,hf2,.inl ⟨by rw [hgd];exact ⟨q,c,hq,hc,rfl,h1⟩,h3⟩⟩
     | true=>exact ⟨c,_,hf2,.inr ⟨by unfold Ch;rw [hgd];simp only [hq,hc,h1];rfl,h3⟩⟩
   ·cases h
  ·cases h
 ·cases h
theorem dH (g:Option (Nat×Bool)):Cz g g=true:=by
 cases g with
 | none=>rfl
 | some p=>obtain ⟨a,b⟩:=p;cases b<;>simp [Cz]
theorem SC {R:Type} (hp:Dk pu call) {N:Nat} {effs:List (Nat×Nat)} {K:SF->St->Option R} {r0:R}: ∀ (r:List (Oper×Nat)) (i:Nat) (fr:SF) (pend:FI) (d:DS),Gw E call pu N all effs K r i d.t fr d.past pend=some r0->Av fr d.fr->d.fr.n=N->Gq E pend d.pend ->
 ∃ d' fr' σ' ps,Ei E call all effs r i d=some d'/\d'.past=σ' :: ps/\Av fr' d'.fr/\d'.fr.n=N/\d'.fr.d=d.fr.d/\K fr' σ'=some r0
 | [],i,fr,pend,d,h,hf,hN,hpe=>by
  unfold Gw at h;split at h
  ·rename_i σ ps hps;exact ⟨d,fr,σ,ps,rfl,hps,hf,hN,rfl,h⟩
  ·cases h
 | (o,m) :: r,i,fr,pend,d,h,hf,hN,hpe=>by
  have key:EK E call all N effs i o m d (λt fr ss pend=>Gw E call pu N all effs K r (i+1) t fr ss pend) r0:=by
   unfold Gw at h;split at h
   ·rename_i σ ps hps;cases hgd:Cz none o.guard with
    | true =>
     rw [hgd] at h;exact SE hp h hps hf hN hpe (g:=none) trivial hgd
    | false =>
     rw [hgd] at h;obtain ⟨c,fr',hf',⟨hg,h1⟩ | ⟨hw,h1⟩⟩:=dI h hf
     ·exact SE hp h1 hps hf' hN hpe hg (dH _)
     ·exact Z5 hp h1 hps hf' hN hpe (g:=none) trivial hw
   ·cases h
  obtain ⟨d',fr',pend',h1,h2,h3,h4,h5,h6⟩:=key;obtain ⟨d2,fr2,σ2,ps2,e1,e2,e3,e4,e5,e6⟩:=SC hp r (i+1) fr' pend' d' h2 h3 h4 h6;refine ⟨d2,fr2,σ2,ps2,?_,e2,e3,e4,e5.trans h5,e6⟩;unfold Ei;rw [h1];exact e1
theorem Z0 (hp:Dk pu call) {N:Nat} {h3:List SH} {ops:List Oper} {R:Type} {fr:SF} {σ:St} {K:SF->St->Option R} {r:R} (h:Od E call pu N h3 ops fr σ K=some r) {F:Fr} (hf:Av fr F) (hN:F.n=N) :
 ∃ fr' F' σ',Cw E call ops F σ=some (F',σ')/\Av fr' F'/\F'.n=N/\F'.d=F.d/\K fr' σ'=some r:=by
 unfold Od at h;obtain ⟨fr1,F1,σ1,a1,a2,a3,a4⟩:=Mk hp _ _ _ _ _ _ _ _ _ h F hf hN trivial;obtain ⟨d',fr',σ',ps,b1,b2,b3,b4,b5,b6⟩:=SC (all:=ops) hp (Ba ops) 0 fr1 [] { fr:=F1,past:=[σ1],t:=0,pend:=[] } a4 a2 a3.n .nil;refine ⟨fr',d'.fr,σ',?_,b3,b4,b5.trans a3.d,b6⟩;unfold Cw;simp only [MC ops a1,b1,b2]
end
end SS
namespace SS
open Go
noncomputable section
abbrev Res:=Option (AEx×List V×St)
def Fn (R:Type):Nat->Type
 | 0=>St->Option R
 | n+1=>V->Fn R n
abbrev cur {R:Type}: (n:Nat)->(List V->St->Option R)->Fn R n
 | 0,g=>g []
 | n+1,g=>λa=>cur n λl=>g (a :: l)
def un {R:Type}: (n:Nat)->Fn R n->List V->St->Option R
 | 0,f=>λvs σ=>List.rec (motive:=λ_=>Option R) (f σ) (λ_ _ _=>none) vs
 | n+1,f=>λvs σ=>List.rec (motive:=λ_=>Option R) none (λa t _=>un n (f a) t σ) vs
theorem WN {R:Type}: ∀ (n:Nat) (g:List V->St->Option R) (vs:List V) (σ:St) (r:R),un n (cur n g) vs σ=some r->vs.length=n/\g vs σ=some r
 | 0,g,[],σ,r,h=>⟨rfl,h⟩
 | 0,g,_ :: _,σ,r,h=>by cases h
 | n+1,g,[],σ,r,h=>by cases h
 | n+1,g,a :: t,σ,r,h=>by
  obtain ⟨h1,h2⟩:=WN n (λl=>g (a :: l)) t σ r h;exact ⟨by simp [h1],h2⟩
def un0 {R:Type} (f:St->Option R):List V->St->Option R:=λt0 σ=>List.rec (motive:=λ_=>Option R) (f σ) (λ_ _ _=>none) t0
def un1 {R:Type} (f:V->St->Option R):List V->St->Option R:=λt0 σ=>List.rec (motive:=λ_=>Option R) none (λx0 t1 _=>List.rec (motive:=λ_=>Option R) (f x0 σ) (λ_ _ _=>none) t1) t0
def un2 {R:Type} (f:V->V->St->Option R):List V->St->Option R:=λt σ=>List.rec (motive:=λ_=>Option R) none (λx r _=>un1 (f x) r σ) t
def un3 {R:Type} (f:V->V->V->St->Option R):List V->St->Option R:=λt σ=>List.rec (motive:=λ_=>Option R) none (λx r _=>un2 (f x) r σ) t
def un4 {R:Type} (f:V->V->V->V->St->Option R):List V->St->Option R:=λt σ=>List.rec (motive:=λ_=>Option R) none (λx r _=>un3 (f x) r σ) t
def un5 {R:Type} (f:V->V->V->V->V->St->Option R):List V->St->Option R:=λt σ=>List.rec (motive:=λ_=>Option R) none (λx r _=>un4 (f x) r σ) t
def un6 {R:Type} (f:V->V->V->V->V->V->St->Option R):List V->St->Option R:=λt σ=>List.rec (motive:=λ_=>Option R) none (λx r _=>un5 (f x) r σ) t
def un7 {R:Type} (f:V->V->V->V->V->V->V->St->Option R):List V->St->Option R:=λt σ=>List.rec (motive:=λ_=>Option R) none (λx r _=>un6 (f x) r σ) t
def un8 {R:Type} (f:V->V->V->V->V->V->V->V->St->Option R):List V->St->Option R:=λt σ=>List.rec (motive:=λ_=>Option R) none (λx r _=>un7 (f x) r σ) t
def un9 {R:Type} (f:V->V->V->V->V->V->V->V->V->St->Option R):List V->St->Option R:=λt σ=>List.rec (motive:=λ_=>Option R) none (λx r _=>un8 (f x) r σ) t
def NB {R:Type} (f:V->V->V->V->V->V->V->V->V->V->St->Option R):List V->St->Option R:=λt σ=>List.rec (motive:=λ_=>Option R) none (λx r _=>un9 (f x) r σ) t
def NC {R:Type} (f:V->V->V->V->V->V->V->V->V->V->V->St->Option R):List V->St->Option R:=λt σ=>List.rec (motive:=λ_=>Option R) none (λx r _=>NB (f x) r σ) t
def ND {R:Type} (f:V->V->V->V->V->V->V->V->V->V->V->V->St->Option R):List V->St->Option R:=λt σ=>List.rec (motive:=λ_=>Option R) none (λx r _=>NC (f x) r σ) t
def NE {R:Type} (f:V->V->V->V->V->V->V->V->V->V->V->V->V->St->Option R):List V->St->Option R:=λt σ=>List.rec (motive:=λ_=>Option R) none (λx r _=>ND (f x) r σ) t
def NF {R:Type} (f:V->V->V->V->V->V->V->V->V->V->V->V->V->V->St->Option R):List V->St->Option R:=λt σ=>List.rec (motive:=λ_=>Option R) none (λx r _=>NE (f x) r σ) t
def NG {R:Type} (f:V->V->V->V->V->V->V->V->V->V->V->V->V->V->V->St->Option R):List V->St->Option R:=λt σ=>List.rec (motive:=λ_=>Option R) none (λx r _=>NF (f x) r σ) t
def NH {R:Type} (f:V->V->V->V->V->V->V->V->V->V->V->V->V->V->V->V->St->Option R):List V->St->Option R:=λt σ=>List.rec (motive:=λ_=>Option R) none (λx r _=>NG (f x) r σ) t
def NI {R:Type} (f:V->V->V->V->V->V->V->V->V->V->V->V->V->V->V->V->V->St->Option R):List V->St->Option R:=λt σ=>List.rec (motive:=λ_=>Option R) none (λx r _=>NH (f x) r σ) t
def NJ {R:Type} (f:V->V->V->V->V->V->V->V->V->V->V->V->V->V->V->V->V->V->St->Option R):List V->St->Option R:=λt σ=>List.rec (motive:=λ_=>Option R) none (λx r _=>NI (f x) r σ) t
def WI {R:Type} (f:V->V->V->V->V->V->V->V->V->V->V->V->V->V->V->V->V->V->V->St->Option R):List V->St->Option R:=λt σ=>List.rec (motive:=λ_=>Option R) none (λx r _=>NJ (f x) r σ) t
def WJ {R:Type} (f:V->V->V->V->V->V->V->V->V->V->V->V->V->V->V->V->V->V->V->V->St->Option R):List V->St->Option R:=λt σ=>List.rec (motive:=λ_=>Option R) none (λx r _=>WI (f x) r σ) t
def WK {R:Type} (f:V->V->V->V->V->V->V->V->V->V->V->V->V->V->V->V->V->V->V->V->V->St->Option R):List V->St->Option R:=λt σ=>List.rec (motive:=λ_=>Option R) none (λx r _=>WJ (f x) r σ) t
def WL {R:Type} (f:V->V->V->V->V->V->V->V->V->V->V->V->V->V->V->V->V->V->V->V->V->V->St->Option R):List V->St->Option R:=λt σ=>List.rec (motive:=λ_=>Option R) none (λx r _=>WK (f x) r σ) t
def WM {R:Type} (f:V->V->V->V->V->V->V->V->V->V->V->V->V->V->V->V->V->V->V->V->V->V->V->St->Option R):List V->St->Option R:=λt σ=>List.rec (motive:=λ_=>Option R) none (λx r _=>WL (f x) r σ) t
def wM {R:Type} (f:V->V->V->V->V->V->V->V->V->V->V->V->V->V->V->V->V->V->V->V->V->V->V->V->St->Option R):List V->St->Option R:=λt σ=>List.rec (motive:=λ_=>Option R) none (λx r _=>WM (f x) r σ) t
abbrev unL {R:Type} (n:Nat) (g:List V->St->Option R):List V->St->Option R :=
 match n with
 | 0=>un0 (g [])
 | 1=>un1 λx0=>g [x0]
 | 2=>un2 λx0 x1=>g [x0,x1]
 | 3=>un3 λx0 x1 x2=>g [x0,x1,x2]
 | 4=>un4 λx0 x1 x2 x3=>g [x0,x1,x2,x3]
 | 5=>un5 λx0 x1 x2 x3 x4=>g [x0,x1,x2,x3,x4]
 | 6=>un6 λx0 x1 x2 x3 x4 x5=>g [x0,x1,x2,x3,x4,x5]
 | 7=>un7 λx0 x1 x2 x3 x4 x5 x6=>g [x0,x1,x2,x3,x4,x5,x6]
 | 8=>un8 λx0 x1 x2 x3 x4 x5 x6 x7=>g [x0,x1,x2,x3,x4,x5,x6,x7]
 | 9=>un9 λx0 x1 x2 x3 x4 x5 x6 x7 x8=>g [x0,x1,x2,x3,x4,x5,x6,x7,x8]
 | 10=>NB λx0 x1 x2 x3 x4 x5 x6 x7 x8 x9=>g [x0,x1,x2,x3,x4,x5,x6,x7,x8,x9]
 | 11=>NC λx0 x1 x2 x3 x4 x5 x6 x7 x8 x9 x10=>g [x0,x1,x2,x3,x4,x5,x6,x7,x8,x9,x10]
 | 12=>ND λx0 x1 x2 x3 x4 x5 x6 x7 x8 x9 x10 x11=>g [x0,x1,x2,x3,x4,x5,x6,x7,x8,x9,x10,x11]
 | 13=>NE λx0 x1 x2 x3 x4 x5 x6 x7 x8 x9 x10 x11 x12=>g [x0,x1,x2,x3,x4,x5,x6,x7,x8,x9,x10,x11,x12]
 | 14=>NF λx0 x1 x2 x3 x4 x5 x6 x7 x8 x9 x10 x11 x12 x13=>g [x0,x1,x2,x3,x4,x5,x6,x7,x8,x9,x10,x11,x12,x13]
 | 15=>NG λx0 x1 x2 x3 x4 x5 x6 x7 x8 x9 x10 x11 x12 x13 x14=>g [x0,x1,x2,x3,x4,x5,x6,x7,x8,x9,x10,x11,x12,x13,x14]
 | 16=>NH λx0 x1 x2 x3 x4 x5 x6 x7 x8 x9 x10 x11 x12 x13 x14 x15=>g [x0,x1,x2,x3,x4,x5,x6,x7,x8,x9,x10,x11,x12,x13,x14,x15]
 | 17=>NI λx0 x1 x2 x3 x4 x5 x6 x7 x8 x9 x10 x11 x12 x13 x14 x15 x16=>g [x0,x1,x2,x3,x4,x5,x6,x7,x8,x9,x10,x11,x12,x13,x14,x15,x16]
 | 18=>NJ λx0 x1 x2 x3 x4 x5 x6 x7 x8 x9 x10 x11 x12 x13 x14 x15 x16 x17=>g [x0,x1,x2,x3,x4,x5,x6,x7,x8,x9,x10,x11,x12,x13,x14,x15,x16,x17]
 | 19=>WI λx0 x1 x2 x3 x4 x5 x6 x7 x8 x9 x10 x11 x12 x13 x14 x15 x16 x17 x18=>g [x0,x1,x2,x3,x4,x5,x6,x7,x8,x9,x10,x11,x12,x13,x14,x15,x16,x17,x18]
 | 20=>WJ λx0 x1 x2 x3 x4 x5 x6 x7 x8 x9 x10 x11 x12 x13 x14 x15 x16 x17 x18 x19=>g [x0,x1,x2,x3,x4,x5,x6,x7,x8,x9,x10,x11,x12,x13,x14,x15,x16,x17,x18,x19]
 | 21=>WK λx0 x1 x2 x3 x4 x5 x6 x7 x8 x9 x10 x11 x12 x13 x14 x15 x16 x17 x18 x19 x20=>g [x0,x1,x2,x3,x4,x5,x6,x7,x8,x9,x10,x11,x12,x13,x14,x15,x16,x17,x18,x19,x20]
 | 22=>WL λx0 x1 x2 x3 x4 x5 x6 x7 x8 x9 x10 x11 x12 x13 x14 x15 x16 x17 x18 x19 x20 x21=>g [x0,x1,x2,x3,x4,x5,x6,x7,x8,x9,x10,x11,x12,x13,x14,x15,x16,x17,x18,x19,x20,x21]
 | 23=>WM λx0 x1 x2 x3 x4 x5 x6 x7 x8 x9 x10 x11 x12 x13 x14 x15 x16 x17 x18 x19 x20 x21 x22=>g [x0,x1,x2,x3,x4,x5,x6,x7,x8,x9,x10,x11,x12,x13,x14,x15,x16,x17,x18,x19,x20,x21,x22]
 | 24=>wM λx0 x1 x2 x3 x4 x5 x6 x7 x8 x9 x10 x11 x12 x13 x14 x15 x16 x17 x18 x19 x20 x21 x22 x23=>g [x0,x1,x2,x3,x4,x5,x6,x7,x8,x9,x10,x11,x12,x13,x14,x15,x16,x17,x18,x19,x20,x21,x22,x23]
 | _=>un n (cur n g)
theorem wO {R:Type} (n:Nat) (g:List V->St->Option R):unL n g=un n (cur n g):=by
 unfold unL
 split<;>rfl
theorem NK {R:Type} {n:Nat} {g:List V->St->Option R} {vs:List V} {σ:St} {r:R} (h:unL n g vs σ=some r):vs.length=n/\g vs σ=some r:=by
 rw [wO] at h;exact WN n g vs σ r h
def Bv (r:Res) (K:List V->St->Res):Res:=Option.rec none (λp=>Prod.rec (λe q=>AEx.rec (Prod.rec K q) (λid=>some (.exit id,q)) (some (.ret,q)) e) p) r
def Aw (i:Nat) (r:Res) (K:List V->St->Res):Res:=Option.rec none (λp=>Prod.rec (λe q=>AEx.rec (Prod.rec K q) (λid=>Bool.rec (some (.exit id,q)) (Prod.rec K q) (Nat.beq id i)) (some (.ret,q)) e) p) r
def Ai (P:List V->St->Res) (k:Nat):List V->St->Res:=Nat.rec (motive:=λ_=>List V->St->Res) (λ_ _=>none) (λ_ ih vs σ=>Bv (P vs σ) ih) k
def AF (c:Bool) (X Y:Res):Res:=Bool.rec Y X c
theorem RX {r:Res} {K:List V->St->Res} {x:AEx×List V×St} (h:Bv r K=some x): ∃ e vs σ,r=some (e,vs,σ)/\((e=.norm/\K vs σ=some x)\/(e≠.norm/\x=(e,vs,σ))):=by
 cases r with
 | none=>cases h
 | some p =>
  obtain ⟨e,vs,σ⟩:=p;refine ⟨e,vs,σ,rfl,?_⟩;cases e with
  | norm=>exact .inl ⟨rfl,h⟩
  | exit i=>cases h;exact .inr ⟨by simp,rfl⟩
  | ret=>cases h;exact .inr ⟨by simp,rfl⟩
theorem Y5 {i:Nat} {r:Res} {K:List V->St->Res} {x:AEx×List V×St} (h:Aw i r K=some x): ∃ e vs σ,r=some (e,vs,σ)/\(((e=.norm\/e=.exit i)/\K vs σ=some x)\/(e≠.norm/\e≠.exit i/\x=(e,vs,σ))):=by
 cases r with
 | none=>cases h
 | some p =>
  obtain ⟨e,vs,σ⟩:=p;refine ⟨e,vs,σ,rfl,?_⟩;cases e with
  | norm=>exact .inl ⟨.inl rfl,h⟩
  | exit j =>
   have h:Bool.rec (motive:=λ_=>Res) (some (.exit j,vs,σ)) (K vs σ) (Nat.beq j i)=some x:=h;cases hb:Nat.beq j i with
   | true =>
    rw [hb] at h;rw [Nat.eq_of_beq_eq_true hb];exact .inl ⟨.inr rfl,h⟩
   | false =>
    rw [hb] at h;cases h;exact .inr ⟨by simp,λe=>(by cases e;rw [Nat.beq_refl] at hb;cases hb),rfl⟩
  | ret=>cases h;exact .inr ⟨by simp,by simp,rfl⟩
def mkF:List Nat->List V->SF
 | t :: L,v :: vs=>(mkF L vs).setR t (.vv v false)
 | _,_=>.leaf
abbrev Ie {R:Type} (fr:SF):List Nat->(List V->Option R)->Option R
 | [],K=>K []
 | t :: L,K=>match fr.getF t with
  | some tv=>Ie fr L λvs=>K (tv.toV :: vs)
  | none=>none
def GP:List Nat->List V->Fr->Prop
 | [],[],_=>True
 | t :: L,v :: vs,F=>F.t.get t=some v/\GP L vs F
 | _,_,_=>False
theorem Ki: ∀ (L:List Nat) (vs:List V) (F:Fr),GP L vs F->Av (mkF L vs) F
 | [],[],F,_=>⟨λt tv h=>by cases h⟩
 | t :: L,v :: vs,F,h=>(Ki L vs F h.2).set (tv:=.vv v false) h.1 DA
 | [],_ :: _,F,h=>h.elim
 | _ :: _,[],F,h=>h.elim
theorem L8 {R:Type} {fr:SF} {F:Fr} (hf:Av fr F): ∀ {L:List Nat} {K:List V->Option R} {r:R},Ie fr L K=some r->∃ vs,GP L vs F/\K vs=some r
 | [],K,r,h=>⟨[],trivial,h⟩
 | t :: L,K,r,h=>by
  unfold Ie at h;split at h
  ·rename_i tv ht;obtain ⟨vs,h1,h2⟩:=L8 hf h;exact ⟨tv.toV :: vs,⟨(hf.get t tv (by rw [<-PT.getF_eq];exact ht)).1,h1⟩,h2⟩
  ·cases h
def Ho (E:Env) (fr:SF) (σ:St):List ResultVar->(List V->Res)->Res
 | [],K=>K []
 | .tmp t :: rs,K=>match fr.getF t with
  | some tv=>Ho E fr σ rs λvs=>K (tv.toV :: vs)
  | none=>none
 | .cell a t :: rs,K=>match fr.getF a with
  | some tv=>match E.P.info? t,E.P.underlying t with
   | some i,some d=>bC (Be d) (ldN E i.size tv.toV 0 σ λv=>Ho E fr σ rs λvs=>K (v :: vs)) (ld1 E tv.toV 0 σ λv=>Ho E fr σ rs λvs=>K (v :: vs))
   | _,_=>none
  | none=>none
theorem Kx {E:Env} {fr:SF} {F:Fr} {σ:St} (hf:Av fr F): ∀ {rs:List ResultVar} {K:List V->Res} {r:AEx×List V×St},Ho E fr σ rs K=some r->∃ vs,EJ E F σ rs=some vs/\K vs=some r
 | [],K,r,h=>⟨[],rfl,h⟩
 | .tmp t :: rs,K,r,h=>by
  unfold Ho at h;split at h
  ·rename_i tv ht;obtain ⟨vs,h1,h2⟩:=Kx hf h;exact ⟨tv.toV :: vs,by simp only [EJ,Jn,(hf.get t tv (by rw [<-PT.getF_eq];exact ht)).1,h1],h2⟩
  ·cases h
 | .cell a t :: rs,K,r,h=>by
  unfold Ho at h;split at h
  ·rename_i tv ht;have h0:=(hf.get a tv (by rw [<-PT.getF_eq];exact ht)).1;split at h
   ·rename_i i d hi hd;cases hg:Be d with
    | true =>
     rw [hg] at h;obtain ⟨q,v,h3,h4,h5⟩:=PY (t:=t) hi hd hg (show ldN E i.size tv.toV 0 σ _=some r from h);rw [IK h3] at h4;obtain ⟨vs,h1,h2⟩:=Kx hf h5;exact ⟨v :: vs,by simp only [EJ,Jn,h0,h4,h1],h2⟩
    | false =>
     rw [hg] at h;obtain ⟨q,v,h3,h4,_,h5⟩:=PX (t:=t) hi hd hg (show ld1 E tv.toV 0 σ _=some r from h);rw [IK h3] at h4;obtain ⟨vs,h1,h2⟩:=Kx hf h5;exact ⟨v :: vs,by simp only [EJ,Jn,h0,h4,h1],h2⟩
   ·cases h
  ·cases h
inductive CH where
 | skip
 | reg (hs:List SH)
 | drw (h3 hs:List SH)
 | drc (h3:List SH)
 | seq (a b:CH)
 | bind (L:List Nat) (a b:CH)
 | cond (a b:CH)
 | blk (a:CH)
 | bblk (a:CH)
 | loop (L:List Nat) (a:CH)
 | rng (a b:CH)
 | exit
 | ret
def FP (i:Nat):Code->Bool
 | .exit j=>!Nat.beq j i
 | .seq a b | .cond _ a b=>FP i a&&FP i b
 | .block _ a | .loop a=>FP i a
 | _=>true
def ML:List (Nat×List Nat)->Nat->Option (List Nat)
 | [],_=>none
 | (j,L) :: r,i=>bC (Nat.beq j i) (some L) (ML r i)
abbrev Ko (L:List Nat) (fr:SF) (σ:St):Res:=Ie fr L λvs=>some (.norm,vs,σ)
def P8 (r:Res):Option St:=Option.rec none (λp=>Prod.rec (λe q=>AEx.rec (some q.2) (λ_=>none) none e) p) r
def U3 (E:Env) (g:V) (rnd:Nat->V->St->Option St) (σ:St):Option St :=
 match g with
 | .fn f [p]=>if E.back f then match JL σ p with
  | some h=>match RS h with
   | some n=>if Nat.blt n 4294967296 then JC rnd p n σ else none
   | none=>none
  | none=>none
  else none
 | _=>none
abbrev VD (ps:List Tmp) (N:Nat) (c:Bool) (K:Nat->Nat->Res):Res :=
 match ps with
 | [p1,p2]=>bC (c&&(Nat.blt p1 N&&Nat.blt p2 N)) (K p1 p2) none
 | _=>none
section
variable (E:Env) (call:Call) (pu:FuncId->Bool) (N kf:Nat) (O:List (Nat×List Nat)) (rs:List ResultVar)
def Bf:CH->Code->SF->St->(SF->St->Res)->Res
 | .skip,.skip,fr,σ,K=>K fr σ
 | .skip,.label _,fr,σ,K=>K fr σ
 | .reg hs,.region _ ops false,fr,σ,K=>DT E call pu N ops.toList 10000 none none hs ops.toList fr σ K
 | .drw h3 hs,.region _ ops true,fr,σ,K=>Oe E call pu N h3 hs ops.toList fr σ K
 | .drc h3,.region _ ops true,fr,σ,K=>Od E call pu N h3 ops.toList fr σ K
 | .seq a b,.seq ca cb,fr,σ,K=>Bf a ca fr σ λfr σ=>Bf b cb fr σ K
 | .bind L a b,.seq ca cb,fr,σ,K=>Bv (Bf a ca fr σ (Ko L)) (unL L.length λvs σ=>Bf b cb (mkF L vs) σ K)
 | .cond a b,.cond c ca cb,fr,σ,K=>Eu fr c λfr x=>AF x (Bf a ca fr σ K) (Bf b cb fr σ K)
 | .blk a,.block i c,fr,σ,K=>bC (FP i c) (Bf a c fr σ K) (none)
 | .bblk a,.block i c,fr,σ,K=>match ML O i with
  | some L=>Aw i (Bf a c fr σ (Ko L)) (unL L.length λvs σ=>K (mkF L vs) σ)
  | none=>none
 | .loop L a,.loop c,fr,σ,_=>Ie fr L λvs=>Ai (unL L.length λvs σ=>Bf a c (mkF L vs) σ (Ko L)) kf vs σ
 | .rng a b,.rangeFunc g ps ca cb,fr,σ,K=>Bc fr g λgv=>VD ps.toList N (CE ca&&CE cb) λp1 p2 =>
  oK (U3 E gv (λk x σ=>P8 (Bf a ca ((fr.setR p1 (.ii .i64 (Int.ofNat k))).setR p2 (.vv x true)) σ λfr σ=>Bf b cb fr σ λ_ σ=>some (.norm,[],σ))) σ) λσ=>K fr σ
 | .exit,.exit i,fr,σ,_=>match ML O i with
  | some L=>Ie fr L λvs=>some (.exit i,vs,σ)
  | none=>none
 | .ret,.ret,fr,σ,_=>Ho E fr σ rs λvs=>some (.ret,vs,σ)
 | _,_,_,_,_=>none
def Out (e:AEx) (us:List V) (F:Fr) (σ:St):Prop :=
 match e with
 | .norm=>False
 | .exit i=>∃ L,ML O i=some L/\GP L us F
 | .ret=>EJ E F σ rs=some us
end
end
theorem Hf {E:Env} {call:Call} {draw:List Oper->Fr->St->Option (Fr×St)} {k i:Nat}: ∀ (c:Code) {F F':Fr} {σ σ':St},FP i c=true->BL E call draw k c F σ=some (.exit i,F',σ')->False
 | .skip,F,F',σ,σ',_,h=>by cases h
 | .label _,F,F',σ,σ',_,h=>by cases h
 | .region _ ops d,F,F',σ,σ',_,h=>by
  unfold BL at h;split at h<;>cases h
 | .seq a b,F,F',σ,σ',hn,h=>by
  unfold FP at hn;simp only [Bool.and_eq_true] at hn;unfold BL at h;split at h
  ·exact Hf b hn.2 h
  ·exact Hf a hn.1 h
 | .cond c a b,F,F',σ,σ',hn,h=>by
  unfold FP at hn;simp only [Bool.and_eq_true] at hn;unfold BL at h;split at h
  ·exact Hf a hn.1 h
  ·exact Hf b hn.2 h
  ·cases h
 | .block j b,F,F',σ,σ',hn,h=>by
  unfold FP at hn;unfold BL at h;split at h
  ·rename_i i' F1 σ1 hb;split at h
   ·cases h
   ·cases h;exact Hf b hn hb
  ·exact Hf b hn h
 | .loop b,F,F',σ,σ',hn,h=>by
  unfold FP at hn;unfold BL at h;have: ∀ (n:Nat) (F:Fr) (σ:St),GR (BL E call draw k b) n F σ=some (.exit i,F',σ')->False:=by
   intro n
   induction n with
   | zero=>intro F σ h;cases h
   | succ n ih =>
    intro F σ h;unfold GR at h;split at h
    ·exact ih _ _ h
    ·exact Hf b hn h
  exact this _ _ _ h
 | .exit j,F,F',σ,σ',hn,h=>by
  cases h;unfold FP at hn;rw [Nat.beq_refl] at hn;cases hn
 | .ret,F,F',σ,σ',_,h=>by cases h
 | .rangeFunc ..,F,F',σ,σ',_,h=>by
  unfold BL at h;unfold IJ at h;split at h
  ·split at h
   ·split at h
    ·split at h
     ·split at h
      ·split at h
       ·cases h
       ·cases h
      ·cases h
     ·cases h
    ·cases h
   ·cases h
  ·cases h
 | .scope _,F,F',σ,σ',_,h=>by cases h
 | .goto _,F,F',σ,σ',_,h=>by cases h
 | .refuse _,F,F',σ,σ',_,h=>by cases h
section
variable {E:Env} {call:Call} {pu:FuncId->Bool} {N kf:Nat} {O:List (Nat×List Nat)} {rs:List ResultVar}
theorem Pr {L:List Nat} {fr:SF} {σ σ':St} {F:Fr} {e:AEx} {us:List V} (hf:Av fr F) (h:Ko L fr σ=some (e,us,σ')):e=.norm/\σ'=σ/\GP L us F:=by
 obtain ⟨vs,h1,h2⟩:=L8 hf (show Ie fr L _=_ from h);cases h2;exact ⟨rfl,rfl,h1⟩
def Q0 (E:Env) (call:Call) (N kf:Nat) (O:List (Nat×List Nat)) (rs:List ResultVar) (c:Code) (F:Fr) (σ:St) (K:SF->St->Res) (e:AEx) (us:List V) (σ':St):Prop :=
 (∃ fr' F' σ1,BL E call (Cw E call) kf c F σ=some (.norm,F',σ1)/\Av fr' F'/\F'.n=N/\F'.d=[]/\K fr' σ1=some (e,us,σ')) \/
 (∃ F',BL E call (Cw E call) kf c F σ=some (e,F',σ')/\e≠.norm/\F'.n=N/\F'.d=[]/\Out E O rs e us F' σ')
theorem qY {r:Res} {σ:St} (h:P8 r=some σ): ∃ us,r=some (.norm,us,σ):=by
 cases r with
 | none=>cases h
 | some p =>
  obtain ⟨e,us,σ'⟩:=p;cases e with
  | norm=>cases h;exact ⟨us,rfl⟩
  | exit i=>cases h
  | ret=>cases h
theorem Tm {o:Option V} {x:V} (h:PN o=some x): ∃ κ z,x=.int κ z/\o=some (.int κ z):=by
 cases o with
 | none=>cases h
 | some v =>
  cases v<;>first | (cases h;done) | skip
  cases h;exact ⟨_,_,rfl,rfl⟩
theorem Yu {σ:St} {h:V} {k:Nat} {x:V} (hx:N7 σ h k=some x): ∃ κ z,x=.int κ z:=by
 unfold N7 at hx;split at hx
 ·obtain ⟨κ,z,e,_⟩:=Tm hx;exact ⟨κ,z,e⟩
 ·split at hx
  ·split at hx
   ·split at hx
    ·obtain ⟨κ,z,e,_⟩:=Tm hx;exact ⟨κ,z,e⟩
    ·cases hx
   ·cases hx
  ·cases hx
 ·cases hx
theorem Q5 {f g:Nat->V->St->Option St} {p:V} (hfg: ∀ k κ z σ σ',f k (.int κ z) σ=some σ'->g k (.int κ z) σ=some σ'): ∀ (n:Nat) {σ σ':St},JC f p n σ=some σ'->JC g p n σ=some σ'
 | 0,σ,σ',h=>h
 | n+1,σ,σ',h=>by
  unfold JC at h ⊢;split at h
  ·rename_i hd hc;split at h
   ·rename_i x hx;split at h
    ·rename_i σ1 h1;obtain ⟨κ,z,rfl⟩:=Yu hx;simp only [hfg _ _ _ _ _ h1];exact Q5 hfg n h
    ·cases h
   ·cases h
  ·cases h
theorem kV (hp:Dk pu call): ∀ (h:CH) (c:Code) {fr:SF} {σ σ':St} {K:SF->St->Res} {e:AEx} {us:List V},Bf E call pu N kf O rs h c fr σ K=some (e,us,σ')->∀ {F:Fr},Av fr F->F.n=N->F.d=[]->Q0 E call N kf O rs c F σ K e us σ':=by
 intro h
 induction h with
 | skip =>
  intro c fr σ σ' K e us h F hf hN hd;cases c<;>first | (simp [Bf] at h;done) | exact .inl ⟨fr,F,σ,rfl,hf,hN,hd,h⟩
 | reg hs =>
  intro c fr σ σ' K e us h F hf hN hd;cases c<;>first | (simp [Bf] at h;done) | skip
  rename_i id ops d;cases d with
  | true=>simp [Bf] at h
  | false =>
   rw [Bf] at h;obtain ⟨fr',F',σ1,h1,h2,h3,h4⟩:=Mk hp _ _ _ _ _ _ _ _ _ h F hf hN trivial;exact .inl ⟨fr',F',σ1,by unfold BL;simp only [Bool.false_eq_true,if_false,h1],h2,h3.n,h3.d.trans hd,h4⟩
 | drw h3 hs =>
  intro c fr σ σ' K e us h F hf hN hd;cases c<;>first | (simp [Bf] at h;done) | skip
  rename_i id ops d;cases d with
  | false=>simp [Bf] at h
  | true =>
   rw [Bf] at h;obtain ⟨fr',F',σ1,h1,h2,h3,h4,h5⟩:=Z4 hp h hf hN;exact .inl ⟨fr',F',σ1,by unfold BL;simp only [if_true,h1],h2,h3,h4.trans hd,h5⟩
 | drc h3 =>
  intro c fr σ σ' K e us h F hf hN hd;cases c<;>first | (simp [Bf] at h;done) | skip
  rename_i id ops d;cases d with
  | false=>simp [Bf] at h
  | true =>
   rw [Bf] at h;obtain ⟨fr',F',σ1,h1,h2,h3,h4,h5⟩:=Z0 hp h hf hN;exact .inl ⟨fr',F',σ1,by unfold BL;simp only [if_true,h1],h2,h3,h4.trans hd,h5⟩
 | seq a b iha ihb =>
  intro c fr σ σ' K e us h F hf hN hd;cases c<;>first | (simp [Bf] at h;done) | skip
  rename_i ca cb;rw [Bf] at h;rcases iha ca h hf hN hd with ⟨fr1,F1,σ1,h1,h2,h3,h4,h5⟩ | ⟨F1,h1,h2,h3,h4,h5⟩
  ·rcases ihb cb h5 h2 h3 h4 with ⟨fr2,F2,σ2,h6,h7⟩ | ⟨F2,h6,h7⟩
   ·exact .inl ⟨fr2,F2,σ2,by unfold BL;simp only [h1,h6],h7⟩
   ·exact .inr ⟨F2,by unfold BL;simp only [h1,h6],h7⟩
  ·refine .inr ⟨F1,?_,h2,h3,h4,h5⟩;unfold BL;rw [h1];cases e<;>first | exact absurd rfl h2 | rfl
 | bind L a b iha ihb =>
  intro c fr σ σ' K e us h F hf hN hd;cases c<;>first | (simp [Bf] at h;done) | skip
  rename_i ca cb;rw [Bf] at h;obtain ⟨e1,vs,σ1,h1,h2⟩:=RX h;rcases iha ca h1 hf hN hd with ⟨fr1,F1,σ2,h3,h4,h5,h6,h7⟩ | ⟨F1,h3,h4,h5,h6,h7⟩
  ·obtain ⟨e2,e3,h8⟩:=Pr h4 h7;subst e2;subst e3;rcases h2 with ⟨_,h2⟩ | ⟨h2,_⟩
   ·obtain ⟨h9,h10⟩:=NK h2;rcases ihb cb h10 (Ki L vs F1 h8) h5 h6 with ⟨fr2,F2,σ3,h11,h12⟩ | ⟨F2,h11,h12⟩
    ·exact .inl ⟨fr2,F2,σ3,by unfold BL;simp only [h3,h11],h12⟩
    ·exact .inr ⟨F2,by unfold BL;simp only [h3,h11],h12⟩
   ·exact absurd rfl h2
  ·rcases h2 with ⟨e2,_⟩ | ⟨_,h2⟩
   ·exact absurd e2 h4
   ·cases h2;refine .inr ⟨F1,?_,h4,h5,h6,h7⟩;unfold BL;rw [h3];cases e<;>first | exact absurd rfl h4 | rfl
 | cond a b iha ihb =>
  intro c fr σ σ' K e us h F hf hN hd;cases c<;>first | (simp [Bf] at h;done) | skip
  rename_i x ca cb;rw [Bf] at h;obtain ⟨fr1,b,h1,h2,h3⟩:=FZ h hf;cases b with
  | true =>
   rcases iha ca (show Bf E call pu N kf O rs a ca fr1 σ K=_ from h3) h2 hN hd with ⟨fr2,F2,σ2,h4,h5⟩ | ⟨F2,h4,h5⟩
   ·exact .inl ⟨fr2,F2,σ2,by unfold BL;simp only [h1,h4],h5⟩
   ·exact .inr ⟨F2,by unfold BL;simp only [h1,h4],h5⟩
  | false =>
   rcases ihb cb (show Bf E call pu N kf O rs b cb fr1 σ K=_ from h3) h2 hN hd with ⟨fr2,F2,σ2,h4,h5⟩ | ⟨F2,h4,h5⟩
   ·exact .inl ⟨fr2,F2,σ2,by unfold BL;simp only [h1,h4],h5⟩
   ·exact .inr ⟨F2,by unfold BL;simp only [h1,h4],h5⟩
 | blk a iha =>
  intro c fr σ σ' K e us h F hf hN hd;cases c<;>first | (simp [Bf] at h;done) | skip
  rename_i i c;rw [Bf] at h;cases hn:FP i c with
  | false=>rw [hn] at h;cases h
  | true =>
   rw [hn] at h;simp only [bC] at h;rcases iha c h hf hN hd with ⟨fr2,F2,σ2,h4,h5⟩ | ⟨F2,h4,h6,h5⟩
   ·exact .inl ⟨fr2,F2,σ2,by unfold BL;simp only [h4],h5⟩
   ·refine .inr ⟨F2,?_,h6,h5⟩;unfold BL;simp only [h4];cases e with
    | norm=>rfl
    | ret=>rfl
    | exit j =>
     simp only;rw [if_neg];intro hb;have:=Nat.eq_of_beq_eq_true hb;subst this;exact Hf c hn h4
 | bblk a iha =>
  intro c fr σ σ' K e us h F hf hN hd;cases c<;>first | (simp [Bf] at h;done) | skip
  rename_i i c;rw [Bf] at h;split at h
  ·rename_i L hL;obtain ⟨e1,vs,σ1,h1,h2⟩:=Y5 h;have key: ∀ (F1:Fr),GP L vs F1->F1.n=N->F1.d=[]->(BL E call (Cw E call) kf c F σ=some (.norm,F1,σ1)\/BL E call (Cw E call) kf c F σ=some (.exit i,F1,σ1))->unL L.length (λvs σ=>K (mkF L vs) σ) vs σ1=some (e,us,σ')->Q0 E call N kf O rs (.block i c) F σ K e us σ':=by
    intro F1 hr hn1 hd1 hc hk;obtain ⟨h9,h10⟩:=NK hk;refine .inl ⟨mkF L vs,F1,σ1,?_,Ki L vs F1 hr,hn1,hd1,h10⟩;unfold BL;rcases hc with hc | hc
    ·simp only [hc]
    ·simp only [hc,Nat.beq_refl,if_true]
   rcases iha c h1 hf hN hd with ⟨fr1,F1,σ2,h3,h4,h5,h6,h7⟩ | ⟨F1,h3,h4,h5,h6,h7⟩
   ·obtain ⟨e2,e3,h8⟩:=Pr h4 h7;subst e2;subst e3;rcases h2 with ⟨_,h2⟩ | ⟨h2,_⟩
    ·exact key F1 h8 h5 h6 (.inl h3) h2
    ·exact absurd rfl h2
   ·rcases h2 with ⟨e2 | e2,h2⟩ | ⟨_,e2,h2⟩
    ·exact absurd e2 h4
    ·subst e2;obtain ⟨L',h8,h9⟩:=h7;rw [hL] at h8;cases h8;exact key F1 h9 h5 h6 (.inr h3) h2
    ·cases h2;refine .inr ⟨F1,?_,h4,h5,h6,h7⟩;unfold BL;simp only [h3];cases e with
     | norm=>rfl
     | ret=>rfl
     | exit j =>
      simp only;rw [if_neg];intro hb;exact e2 (by rw [Nat.eq_of_beq_eq_true hb])
  ·cases h
 | loop L a iha =>
  intro c fr σ σ' K e us h F hf hN hd;cases c<;>first | (simp [Bf] at h;done) | skip
  rename_i c;rw [Bf] at h;obtain ⟨vs,h1,h2⟩:=L8 hf h
  have key: ∀ (n:Nat) (vs:List V) (F:Fr) (σ:St),GP L vs F->F.n=N->F.d=[]->Ai (unL L.length λvs σ=>Bf E call pu N kf O rs a c (mkF L vs) σ (Ko L)) n vs σ=some (e,us,σ') ->
   ∃ F',GR (BL E call (Cw E call) kf c) n F σ=some (e,F',σ')/\e≠.norm/\F'.n=N/\F'.d=[]/\Out E O rs e us F' σ':=by
   intro n
   induction n with
   | zero=>intro vs F σ _ _ _ h;cases h
   | succ n ih =>
    intro vs F σ hr hN hd h;obtain ⟨e1,vs1,σ1,h3,h4⟩:=RX (show Bv _ _=some _ from h);obtain ⟨_,h5⟩:=NK h3;rcases iha c h5 (Ki L vs F hr) hN hd with ⟨fr1,F1,σ2,h6,h7,h8,h9,h10⟩ | ⟨F1,h6,h7,h8,h9,h10⟩
    ·obtain ⟨e2,e3,h11⟩:=Pr h7 h10;subst e2;subst e3;rcases h4 with ⟨_,h4⟩ | ⟨h4,_⟩
     ·obtain ⟨F2,h12,h13⟩:=ih vs1 F1 σ1 h11 h8 h9 h4;exact ⟨F2,by unfold GR;simp only [h6,h12],h13⟩
     ·exact absurd rfl h4
    ·rcases h4 with ⟨e2,_⟩ | ⟨_,h4⟩
     ·exact absurd e2 h7
     ·cases h4;refine ⟨F1,?_,h7,h8,h9,h10⟩;unfold GR;simp only [h6];cases e<;>first | exact absurd rfl h7 | rfl
  obtain ⟨F',h3,h4⟩:=key kf vs F σ h1 hN hd h2;exact .inr ⟨F',by unfold BL;exact h3,h4⟩
 | rng a b iha ihb =>
  intro c fr σ σ' K e us h F hf hN hd;cases c<;>first | (simp [Bf] at h;done) | skip
  rename_i g ps ca cb;rw [Bf] at h;obtain ⟨gv,hgv,h⟩:=Bq h hf;unfold VD at h;split at h
  rotate_left 1
  ·cases h
  rename_i p1 p2 hps;cases hc:(CE ca&&CE cb)&&(Nat.blt p1 N&&Nat.blt p2 N) with
  | false=>rw [hc] at h;cases h
  | true =>
   rw [hc] at h;simp only [bC] at h;obtain ⟨σ1,h1,h2⟩:=BR h;simp only [Bool.and_eq_true] at hc;obtain ⟨⟨hc1,hc2⟩,hb1,hb2⟩:=hc;refine .inl ⟨fr,F,σ1,?_,hf,hN,hd,h2⟩;unfold BL;rw [hgv,hps,hc1,hc2];unfold U3 at h1;unfold IJ;split at h1
   rotate_left 1
   ·cases h1
   rename_i f p;split at h1
   rotate_left 1
   ·cases h1
   rename_i hbk;simp only [hbk,Bool.and_self,if_true];split at h1
   rotate_left 1
   ·cases h1
   rename_i hd0 hcell;simp only [hcell];split at h1
   rotate_left 1
   ·cases h1
   rename_i n0 hlen;simp only [hlen];split at h1
   rotate_left 1
   ·cases h1
   rename_i hsm;simp only [hsm,if_true]
   have hround: ∀ k κ z σ σ',P8 (Bf E call pu N kf O rs a ca ((fr.setR p1 (.ii .i64 (Int.ofNat k))).setR p2 (.vv (.int κ z) true)) σ λfr σ=>Bf E call pu N kf O rs b cb fr σ λ_ σ=>some (.norm,[],σ))=some σ' ->
    Np (BL E call (Cw E call) kf ca) (BL E call (Cw E call) kf cb) F [p1,p2] k (.int κ z) σ=some σ':=by
    intro k κ z σ σ' h3;obtain ⟨us,h4⟩:=qY h3;have hF:({ F with d:=[] }: Fr)=F:=by rw [<-hd]
    have hf1:=L6 (L6 hf (d:=p1) (tv:=.ii .i64 (Int.ofNat k)) trivial) (d:=p2) (tv:=.vv (.int κ z) true) (λ_=>rfl);unfold Np VE;simp only [Fr.put,hN,hb1,hb2,if_true];rcases iha ca h4 hf1 (by exact hN) hd with ⟨fr2,F2,σ2,h5,h6,h7,h8,h9⟩ | ⟨F2,h5,h6,_⟩
    ·rcases ihb cb h9 h6 h7 h8 with ⟨fr3,F3,σ3,h10,h11,h12,h13,h14⟩ | ⟨F3,h10,h11,_⟩
     ·cases h14;have h5':BL E call (Cw E call) kf ca { t:=(F.t.set p1 (V.int .i64 ↑k)).set p2 (V.int κ z),n:=N,d:=[] } σ=some (AEx.norm,F2,σ2):=by rw [<-hN,<-hd];exact h5
      rw [h5'];simp only [h10]
     ·exact absurd rfl h11
    ·exact absurd rfl h6
   rw [Q5 hround n0 h1]
 | exit =>
  intro c fr σ σ' K e us h F hf hN hd;cases c<;>first | (simp [Bf] at h;done) | skip
  rename_i i;rw [Bf] at h;split at h
  ·rename_i L hL;obtain ⟨vs,h1,h2⟩:=L8 hf h;cases h2;exact .inr ⟨F,rfl,by simp,hN,hd,L,hL,h1⟩
  ·cases h
 | ret =>
  intro c fr σ σ' K e us h F hf hN hd;cases c<;>first | (simp [Bf] at h;done) | skip
  rw [Bf] at h;obtain ⟨vs,h1,h2⟩:=Kx hf h;cases h2;exact .inr ⟨F,rfl,by simp,hN,hd,h1⟩
end
end SS
namespace SS
open Go
noncomputable section
def Ah (r:Res):Option (V×St):=Option.rec none (λp=>Prod.rec (λe q=>Prod.rec (λus σ=>AEx.rec none (λ_=>none) (some (AL us,σ)) e) q) p) r
theorem aZ {r:Res} {v:V} {σ:St} (h:Ah r=some (v,σ)): ∃ us,r=some (.ret,us,σ)/\v=AL us:=by
 cases r with
 | none=>cases h
 | some p =>
  obtain ⟨e,us,σ'⟩:=p;cases e with
  | norm=>cases h
  | exit i=>cases h
  | ret=>cases h;exact ⟨us,rfl,rfl⟩
def PU (E:Env) (call:Call) (pu:FuncId->Bool) (kf:Nat) (fn:Func) (c:Code) (h:CH) (O:List (Nat×List Nat)) (vs:List V) (σ:St):Option (V×St) :=
 Ah (Bf E call pu (vs.length+(fn.ntmps - vs.length)) kf O fn.results.toList h c (mkF (List.range vs.length) vs) σ λfr σ=>Ho E fr σ fn.results.toList λus=>some (.ret,us,σ))
theorem U8: ∀ (vs:List V) (L:List Nat) (F:Fr),L.length=vs.length->(∀ (i t:Nat),L[i]? = some t->F.t.get t=vs[i]?)->GP L vs F
 | [],[],_,_,_=>trivial
 | v :: vs,t :: L,F,hl,h=>⟨h 0 t rfl,U8 vs L F (by simpa using hl) λi t ht=>h (i+1) t (by simpa using ht)⟩
 | [],_ :: _,_,hl,_=>by simp at hl
 | _ :: _,[],_,hl,_=>by simp at hl
theorem kW {E:Env} {call dcall:Call} {pu:FuncId->Bool} (hp:Dk pu call) {kf:Nat} {fn:Func} {c:Code} {h:CH} {O:List (Nat×List Nat)} {vs:List V} {σ σ':St} {v:V} (hk:PU E call pu kf fn c h O vs σ=some (v,σ')) :
 Jp E call dcall (Cw E call) kf fn c vs σ=some (v,σ'):=by
 obtain ⟨us,h1,rfl⟩:=aZ hk;have hrel:GP (List.range vs.length) vs { t:=Fp vs 0 .leaf,n:=vs.length+(fn.ntmps - vs.length),d:=[] }:=by
  refine U8 _ _ _ (by simp) λi t ht=>?_
  obtain ⟨hlt,e⟩:=List.getElem?_eq_some_iff.1 ht;have e:i=t:=by simpa using e
  subst e;simp only [Ny];rw [if_pos ⟨Nat.zero_le _,by simpa using hlt⟩,Nat.sub_zero]
 have pack: ∀ (F:Fr) (x:AEx),(x=.norm\/x=.ret)->F.d=[]->BL E call (Cw E call) kf c { t:=Fp vs 0 .leaf,n:=vs.length+(fn.ntmps - vs.length),d:=[] } σ=some (x,F,σ')->EJ E F σ' fn.results.toList=some us->Jp E call dcall (Cw E call) kf fn c vs σ=some (AL us,σ'):=by
  intro F x hx hd hc hr;have hds:JD dcall F.d σ'=some σ':=by rw [hd];rfl
  unfold Jp;rcases hx with rfl | rfl
  all_goals
   rw [hc];simp only [hds,hr];rcases us with _ | ⟨a,_ | ⟨b,t⟩⟩<;>rfl
 rcases kV hp h c h1 (Ki _ _ _ hrel) rfl rfl with ⟨fr',F',σ1,h2,h3,h4,h5,h6⟩ | ⟨F',h2,h3,h4,h5,h6⟩
 ·obtain ⟨us',h7,h8⟩:=Kx h3 h6;cases h8;exact pack F' .norm (.inl rfl) h5 h2 h7
 ·exact pack F' .ret (.inr rfl) h5 h2 h6
def M3 (split:Bool) (body:List V->St->Option (V×St)) (vs:List V) (σ:St):Option (V×St) :=
 bif Ja split vs then QK body σ else body vs σ
end
section
variable {E:Env} {pu:FuncId->Bool}
theorem tV {f:FuncId} {split:Bool} {body:List V->St->Option (V×St)} (hb:H9 E f body) {ρ:Ren} {M:Mem} {w:World} {vs:List V} {vs':List Value} {σ σ':St} {v:V} (hs:Ja split vs=true) (h:QK body σ=some (v,σ')) (hsr:SR E.P ρ M σ w) (hg:GOk E M) (hv:VRL ρ M vs vs') :
 Calls E.P f vs'.toArray w λ| .returned v',w'=>Fg E ρ M σ w σ' v v' w' | _,_=>False:=by
 have hvs:vs=[.emp]:=by
  unfold Ja at hs;split at hs
  ·rfl
  ·cases hs
 subst hvs;unfold QK at h;split at h
 ·rename_i a b ha hb';split at h
  ·rename_i hc;cases h;simp only [Bool.and_eq_true] at hc;cases hv with | cons _ x' _ _ hx hnil=>cases hnil with | nil =>
   cases hx with
   | emp base cap hcap =>
   cases base with
   | none =>
    have:=hcap rfl;subst this;refine (SK hb ha hsr hg (.cons _ _ _ _ .nilS .nil)).mono λe w' he=>?_
    cases e with
    | panicked _=>exact he.elim
    | outgrown=>exact he.elim
    | returned v' =>
     obtain ⟨ρ',M',s,hr⟩:=he;exact ⟨ρ',M',s,Tr hr hc.1⟩
   | some base =>
    refine (SK hb hb' hsr hg (.cons _ _ _ _ (.lst0 false base cap (λh=>by cases h)) .nil)).mono λe w' he=>?_
    cases e with
    | panicked _=>exact he.elim
    | outgrown=>exact he.elim
    | returned v' =>
     obtain ⟨ρ',M',s,hr⟩:=he;exact ⟨ρ',M',s,Tr hr hc.2⟩
  ·cases h
 ·cases h
end
end SS
namespace SS
open Go
theorem PT.ofL_mem {A:Type}: ∀ (l:List (Nat×A)) {n:Nat} {a:A},PT.getF (PT.ofL l) n=some a->(n,a)∈l
 | [],n,a,h=>by cases h
 | (m,b) :: l,n,a,h=>by
  have h:PT.getF (PT.setR (PT.ofL l) m b) n=some a:=h;rw [PT.getF_eq,PT.zAu,PT.get_set] at h;split at h
  ·rename_i e;cases h;rw [e];exact List.mem_cons_self ..
  ·rw [<-PT.getF_eq] at h;exact List.mem_cons_of_mem _ (PT.ofL_mem l h)
section
variable {E:Env} {pu:FuncId->Bool}
end
theorem WP {ρ:Ren} {M:Mem} (k:IntKind): ∀ zs:List Int,VRL ρ M (zs.map (V.int k)) (zs.map (Value.int k))
 | []=>.nil
 | z :: zs=>.cons _ _ _ _ (.int k z) (WP k zs)
def MB (E:Env):List Func->Nat->Bool
 | [],_=>true
 | fn :: r,i=>((E.extn i).isSome||OA E fn)&&MB E r (i+1)
theorem TU {E:Env}: ∀ {l:List Func} {i k:Nat} {fn:Func},MB E l i=true->l[k]? = some fn->E.extn (i+k)=none->OA E fn=true
 | [],_,_,_,_,h,_=>by simp at h
 | f0 :: r,i,k,fn,h,hk,hx=>by
  simp only [MB,Bool.and_eq_true,Bool.or_eq_true] at h;cases k with
  | zero =>
   simp at hk;subst hk;rcases h.1 with h1 | h1
   ·rw [Nat.add_zero] at hx;rw [hx] at h1;cases h1
   ·exact h1
  | succ k=>exact TU h.2 (by simpa using hk) (by rw [show i+1+k=i+(k+1) by omega];exact hx)
theorem ZV {E:Env} (h:MB E E.P.funcs.toList 0=true): ∀ (f:FuncId) (fn:Func) (c:Code),E.extn f=none->E.P.funcs[f]? = some fn->fn.body=some c->EF E c=true/\(fn.name== "runtime.NumGoroutine")=false:=by
 intro f fn c hx hf hb;have h1:E.P.funcs.toList[f]? = some fn:=by simpa using hf
 have:=TU h h1 (by rw [Nat.zero_add];exact hx);unfold OA at this;rw [hb] at this;simpa using this
def Nl (w:World) (g:Nat) (k:IntKind) (zs:List Int):Prop :=
 ∃ cs t fr,w.heap[g]? = some (.cells cs t fr)/\cs.toList=zs.map (Value.int k)
theorem vC {P:Program} {w:World} {name:String} {k:IntKind} {zs:List Int} {g:Nat} {t e:TypeId} {n:Nat} {d:DataW Unit}
 (hg:P.globalNamed name=some g) (hty:(P.globals[g]?).map (·.type)=some t) (ht:P.underlying t=some (.array n e)) (he:P.underlying e=some (.int k)) (hce:P.cellsOf e=1) (hct:P.cellsOf t=n)
 (hd:d=Lib.tabData k zs) (h:Lib.VarReads P w name d):Nl w g k zs:=by
 subst hd;obtain ⟨g',t',cs,fuel,p,hg',ht',hvar,hd⟩:=h;obtain rfl:=Option.some.inj (hg.symm.trans hg');obtain rfl:=Option.some.inj (hty.symm.trans ht');have hcs:=Lib.cells_of_tab ht he hce hct hd;unfold World.var? at hvar;rw [hg] at hvar;simp only [Option.bind_some] at hvar;split at hvar
 ·rename_i cs' t' fr h1;cases hvar;exact ⟨_,_,_,h1,hcs⟩
 ·cases hvar
section
variable {E:Env} {pu:FuncId->Bool}
end
theorem ZR {w:World} {g:Nat} {v:Value} (h:w.cell? ⟨g,0,none⟩=some v): ∃ cs t fr,w.heap[g]? = some (.cells cs t fr)/\cs[0]? = some v:=by
 unfold World.cell? at h;simp only at h;split at h
 ·rename_i cs t fr hg;exact ⟨cs,t,fr,hg,by simpa using h⟩
 ·cases h
def Ng (w:World) (g:Nat):Prop:=∃ cs t fr v',w.heap[g]? = some (.cells cs t fr)/\cs.toList=[v']/\v'.oneCell'=true
theorem Tg {P:Program} {t:TypeId} (h:(match P.underlying t with | some (.interface _)=>true | _=>false)=true): ∃ m,P.underlying t=some (.interface m):=by
 split at h
 ·rename_i m e;exact ⟨m,e⟩
 ·cases h
theorem Ue {P:Program} {w:World} {name:String} {g:Nat} {t:TypeId} {d:DataW Unit}
 (hg:P.globalNamed name=some g) (hty:(P.globals[g]?).map (·.type)=some t) (ht: ∃ m,P.underlying t=some (.interface m)) (h:Lib.VarReads P w name d):Ng w g:=by
 obtain ⟨m,ht⟩:=ht;obtain ⟨g',t',cs,fuel,p,hg',ht',hvar,hd⟩:=h;obtain rfl:=Option.some.inj (hg.symm.trans hg');obtain rfl:=Option.some.inj (hty.symm.trans ht');have hcs: ∃ v',cs.toList=[v']/\v'.oneCell'=true:=by
  cases fuel with
  | zero=>simp [DataW.trod] at hd
  | succ fuel =>
   unfold DataW.trod at hd;rw [ht] at hd;generalize cs.toList=l at hd ⊢;split at hd
   all_goals first
    | (rename_i he;cases he;done)
    | exact ⟨_,rfl,rfl⟩
    | (cases hd;done)
    | (rename_i he _;cases he;done)
 obtain ⟨v',h1,h2⟩:=hcs;unfold World.var? at hvar;rw [hg] at hvar;simp only [Option.bind_some] at hvar;split at hvar
 ·rename_i cs' t' fr h3;cases hvar;exact ⟨_,_,_,v',h3,h1,h2⟩
 ·cases hvar
section
variable {E:Env} {pu:FuncId->Bool}
end
end SS
