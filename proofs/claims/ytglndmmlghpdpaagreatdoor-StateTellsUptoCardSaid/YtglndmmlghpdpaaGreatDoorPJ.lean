/-
  part 10 of the proof; no condition.
-/
import Derived.Test.YtglndmmlghpdpaaGreatDoorPI
import Derived.KernelRfl
namespace Go.Proofs.YtglndmmlghpdpaaGreatDoor
open Go SS
set_option maxRecDepth 100000
noncomputable section
def t146_0 (_:SS.Call) (_:Nat):TR:=un2 λa b c=>ld1 env a 2 c λd=>ldN env 4 b 0 c λe=>agN 4 e λf=>BQ 122 4 1 f d c λg h=>st1 a 2 g h λi=>some (.ret,[],i)
def t146_1 (call:SS.Call) (k:Nat):TR:=un2 λa b c=>AB b λd=>AF (ntB (eqI d (Int.ofNat 0))) (ld1 env a 1 c λe=>AB e λf=>Ab 9223372036854775807 IntKind.i64 f (Int.ofNat 1) λg=>st1 a 1 (V.int .i64 g) c λh=>pK (call 146 [a] h) λ_ j=>ld1 env a 2 j λl=>onK b (BQ 122 4 1 [b,V.int .i64 (Int.ofNat 0),V.str [],V.str []] l j λm n=>st1 a 2 m n λo=>some (.ret,[],o))) (St.newK c (AO.blk [V.int .i64 (Int.ofNat 0),V.str [],V.int .i64 (Int.ofNat 0),V.int .i64 (Int.ofNat 0)] 146 0 false) λp q=>ld1 env a 0 q λr=>ld1 env a 1 q λs=>aiK s λt=>Bw 4 4 r t 0 q λu=>oK (storeAt env 146 (V.ptr p 0 0) u q) λv=>ld1 env (V.ptr p 0 0) 0 v λw=>AB w λx=>AF (eqI x (Int.ofNat 1)) (ld1 env a 1 v λy=>AB y λz=>Ab 9223372036854775807 IntKind.i64 z (Int.ofNat 1) λaa=>st1 a 1 (V.int .i64 aa) v λab=>ld1 env a 2 ab λac=>ld1 env (V.ptr p 0 0) 2 ab λad=>BQ 122 4 1 [V.int .i64 (Int.ofNat 1),ad,V.str [],V.str []] ac ab λae af=>st1 a 2 ae af λag=>some (.ret,[],ag)) (ld1 env (V.ptr p 0 0) 0 v λah=>AB ah λai=>AF (eqI ai (Int.ofNat 2)) (ld1 env a 1 v λaj=>AB aj λal=>Ab 9223372036854775807 IntKind.i64 al (Int.ofNat 1) λam=>st1 a 1 (V.int .i64 am) v λan=>ld1 env (V.ptr p 0 0) 1 an λao=>St.newK an (AO.blk [V.int .i64 (Int.ofNat 0),V.int .i64 (Int.ofNat 0),V.str [],V.str []] 122 0 false) λap aq=>oK (storeAt env 122 (V.ptr ap 0 0) (V.agg [V.int .i64 (Int.ofNat 2),V.int .i64 (Int.ofNat 0),ao,V.str []]) aq) λar=>Bv (pK (call 153 [a,V.str [64]] ar) λau av=>boK au λaw=>AF aw (ld1 env a 1 av λax=>AB ax λay=>Ab 9223372036854775807 IntKind.i64 ay (Int.ofNat 1) λaz=>st1 a 1 (V.int .i64 az) av λa0=>ld1 env a 0 a0 λa1=>ld1 env a 1 a0 λa2=>aiK a2 λa3=>AZ 4 a1 a3 0 a0 λa4=>AB a4 λa5=>AF (ntB (eqI a5 (Int.ofNat 2))) (pK (call 154 [a] a0) λ_ a7=>some (.ret,[],a7)) (st1 (V.ptr ap 0 0) 0 (V.int .i64 (Int.ofNat 3)) a0 λa8=>ld1 env a 0 a8 λa9=>ld1 env a 1 a8 λba=>aiK ba λbb=>AZ 4 a9 bb 1 a8 λbc=>st1 (V.ptr ap 0 0) 3 bc a8 λbd=>ld1 env a 1 bd λbe=>AB be λbf=>Ab 9223372036854775807 IntKind.i64 bf (Int.ofNat 1) λbg=>st1 a 1 (V.int .i64 bg) bd λbh=>some (.norm,[a,V.ptr ap 0 0],bh))) (some (.norm,[a,V.ptr ap 0 0],av))) (t146_0 call k)) (pK (call 153 [a,V.str [40]] v) λbi bj=>boK bi λbl=>AF bl (ld1 env a 1 bj λbm=>AB bm λbn=>Ab 9223372036854775807 IntKind.i64 bn (Int.ofNat 1) λbo=>st1 a 1 (V.int .i64 bo) bj λbp=>pK (call 123 [a,V.int .i64 (Int.ofNat 1)] bp) λ_ br=>ld1 env a 3 br λbs=>AB bs λbt=>AF (leI (Int.ofNat 0) bt) (some (.ret,[],br)) (pK (call 153 [a,V.str [41]] br) λbu bv=>boK bu λbw=>AF (ntB bw) (pK (call 154 [a] bv) λ_ bz=>some (.ret,[],bz)) (ld1 env a 1 bv λb0=>AB b0 λb1=>Ab 9223372036854775807 IntKind.i64 b1 (Int.ofNat 1) λb2=>st1 a 1 (V.int .i64 b2) bv λb3=>some (.ret,[],b3)))) (pK (call 154 [a] bj) λ_ b5=>some (.ret,[],b5)))))
def t146 (call:SS.Call) (k:Nat):TF:=un1 λa b=>Ah (Bv (ld1 env a 3 b λc=>AB c λd=>AF (leI (Int.ofNat 0) d) (some (.ret,[],b)) (pK (call 153 [a,V.str [33]] b) λe f=>boK e λg=>AF g (some (.norm,[a,V.int .i64 (Int.ofNat 4)],f)) (pK (call 153 [a,V.str [45]] f) λh i=>boK h λj=>AF j (some (.norm,[a,V.int .i64 (Int.ofNat 5)],i)) (some (.norm,[a,V.int .i64 (Int.ofNat 0)],i))))) (t146_1 call k))
theorem gL:Ad env pu 146 t146:=Aj 1 (.seq (.reg [.one]) (.bind [0,2] (.blk (.seq (.reg [.one,.adr 2,.one,.one]) (.cond .ret (.seq (.reg [.one,.one,.one]) (.cond (.reg [.one]) (.seq (.reg [.one,.one,.one]) (.cond (.reg [.one]) .skip))))))) (.seq (.seq (.reg [.one,.one]) (.cond (.seq (.reg [.one,.adr 2,.one,.adr 2]) (.seq (.reg [.one,.one]) (.seq (.reg [.one,.one,.adr 2,.one,.one,.app,.adr 2]) .ret))) .skip)) (.seq (.drw [.one] [.one,.adr 2,.one,.adr 2,.adr 1,.one]) (.blk (.seq (.reg [.adr 1,.one,.one]) (.cond (.seq (.reg [.one,.adr 2,.one,.adr 2]) (.drw [] [.one,.one,.adr 2,.adr 1,.one,.app,.adr 2])) (.seq (.reg [.adr 1,.one,.one]) (.cond (.seq (.reg [.one,.adr 2,.one,.adr 2]) (.seq (.reg [.adr 1,.one,.one,.one]) (.bind [0,4] (.seq (.reg [.one,.one]) (.cond (.seq (.reg [.one,.adr 2,.one,.adr 2]) (.seq (.seq (.drw [] [.one,.adr 2,.one,.adr 2,.adr 2,.one]) (.cond (.seq (.reg [.one,.one]) .ret) .skip)) (.seq (.reg [.adr 1]) (.seq (.drw [] [.one,.adr 2,.one,.adr 2,.adr 2,.adr 1]) (.reg [.one,.adr 2,.one,.adr 2]))))) .skip)) (.drw [] [.one,.one,.adr 2,.one,.app,.adr 2])))) (.seq (.reg [.one,.one,.one]) (.cond (.seq (.reg [.one,.adr 2,.one,.adr 2]) (.seq (.reg [.one,.one]) (.seq (.seq (.reg [.one,.adr 2,.one]) (.cond .ret .skip)) (.seq (.seq (.reg [.one,.one,.one]) (.cond (.seq (.reg [.one,.one]) .ret) .skip)) (.reg [.one,.adr 2,.one,.adr 2]))))) (.reg [.one,.one])))))))))))) [] Tryz.func146
def t147_0 (call:SS.Call) (_:Nat):TR:=un4 λa b c d e=>AB d λf=>AF (leI f (Int.ofNat 16)) (aiK d λg=>oK (indexAt env 76 c (V.int .i64 g)) λh=>ld1 env h 0 e λi=>ld1 env b 1 e λj=>stK i λl=>stK j λm=>A7 (eqS l m) e (pK (call 124 [d] e) λn _=>AB n λo=>AB a λp=>some (eqI o p,e)) λq r=>AF q (some (.ret,[d],r)) (AB d λs=>Ab 9223372036854775807 IntKind.i64 s (Int.ofNat 1) λt=>some (.norm,[a,b,c,V.int .i64 t],r))) (some (.exit 0,[],e))
def t147_1 (_:SS.Call) (_:Nat):TR:=un0 λa=>some (.ret,[V.int .i64 (Int.ofNat 0)],a)
def t147 (call:SS.Call) (k:Nat):TF:=un2 λa b c=>Ah (St.newK c (AO.blk (V.cellsF a) 146 0 false) λd e=>ld1 env (V.ptr d 0 0) 0 e λf=>AB f λg=>AF (ntB (eqI g (Int.ofNat 4))) (some (.ret,[V.int .i64 (Int.ofNat 0)],e)) (oK (CD env 76 [(0,V.str []),(1,V.str []),(2,V.str []),(3,V.str []),(4,V.str []),(5,V.str []),(6,V.str [42]),(7,V.str [43]),(8,V.str [45]),(9,V.str [60]),(10,V.str [60,61]),(11,V.str [62]),(12,V.str [62,61]),(13,V.str [61,61]),(14,V.str [33,61]),(15,V.str [38,38]),(16,V.str [124,124])]) λh=>St.newK e (AO.blk [V.str [],V.str [],V.str [],V.str [],V.str [],V.str [],V.str [],V.str [],V.str [],V.str [],V.str [],V.str [],V.str [],V.str [],V.str [],V.str [],V.str []] 76 0 false) λi j=>oK (storeAt env 76 (V.ptr i 0 0) h j) λl=>Aw 0 (Ai (t147_0 call k) k [b,V.ptr d 0 0,V.ptr i 0 0,V.int .i64 (Int.ofNat 6)] l) (t147_1 call k)))
theorem gM:Ad env pu 147 t147:=Aj 2 (.seq (.reg [.one,.one]) (.seq (.seq (.reg [.adr 1,.one]) (.cond (.seq (.reg [.one]) .ret) .skip)) (.seq (.reg [.one,.one,.one]) (.seq (.seq (.reg [.one]) (.bblk (.loop [1,2,5,6] (.seq (.seq (.reg [.one,.one]) (.cond .skip .exit)) (.seq (.blk (.seq (.drw [] [.one,.one,.one,.adr 1,.one,.one,.grp 4 [.one,.one,.one,.one]]) (.cond (.seq (.reg [.one,.one]) .ret) .skip))) (.reg [.one,.one,.one])))))) (.seq (.reg [.one]) .ret))))) [(0,[])] Tryz.func147
def t150 (_:SS.Call) (_:Nat):TF:=un1 λa b=>Ah (u8K a λc=>A7 (leI (Int.ofNat 48) c) b (u8K a λd=>some (leI d (Int.ofNat 57),b)) λe f=>some (.ret,[V.bool e],f))
theorem gO:Ad env pu 150 t150:=Aj 1 (.seq (.reg [.one]) (.seq (.reg [.one,.one,.one,.grp 2 [.one,.one],.one]) .ret)) [] Tryz.func150
def t153 (_:SS.Call) (_:Nat):TF:=un2 λa b c=>Ah (ld1 env a 0 c λd=>ld1 env a 1 c λe=>aiK e λf=>AZ 4 d f 0 c λg=>AB g λh=>A7 (eqI h (Int.ofNat 4)) c (ld1 env a 0 c λi=>ld1 env a 1 c λj=>aiK j λl=>AZ 4 i l 1 c λm=>stK m λn=>stK b λo=>some (eqS n o,c)) λp q=>some (.ret,[V.bool p],q))
theorem gP:Ad env pu 153 t153:=Aj 2 (.seq (.reg [.one]) (.seq (.drw [] [.one,.adr 2,.one,.adr 2,.adr 2,.one,.one,.grp 13 [.one,.adr 2,.one,.adr 2,.adr 2,.one,.one],.one]) .ret)) [] Tryz.func153
def t154 (_:SS.Call) (_:Nat):TF:=un1 λa b=>Ah (ld1 env a 3 b λc=>AB c λd=>AF (ltI d (Int.ofNat 0)) (ld1 env a 1 b λe=>st1 a 3 e b λf=>some (.ret,[],f)) (some (.ret,[],b)))
theorem gQ:Ad env pu 154 t154:=Aj 1 (.seq (.reg [.one,.adr 2,.one]) (.cond (.reg [.one,.one,.adr 2,.adr 2]) .skip)) [] Tryz.func154
end
end Go.Proofs.YtglndmmlghpdpaaGreatDoor
namespace Go.Proofs.YtglndmmlghpdpaaGreatDoor
open Go SS
section
variable (call:SS.Call) (k:Nat) (σ:SS.St)
theorem Zz (c:Int):t54 call k [.int .u8 c] σ=some (.bool (B6 c),σ):=by
 unfold t54;simp only [↓rK,rP,AL];rfl
theorem mW (c:Int):t53 call k [.int .u8 c] σ=some (.bool (CY c),σ):=by
 unfold t53;simp only [↓rK,rP,AL];rfl
theorem Yg (c:Int):t103 call k [.int .i64 c] σ=some (.int .i64 (arity c),σ):=by
 unfold t103 arity;simp only [↓rK,rP];by_cases h1:1<=c/\c<=3
 ·simp [h1];rfl
 ·by_cases h2:c=4\/c=5
  ·simp [h1,h2];rfl
  ·by_cases h3:6<=c/\c<=16<;>simp [h1,h2,h3]<;>rfl
end
theorem kR {call:SS.Call} (h1: ∀ c τ,call 53 [.int .u8 c] τ=some (.bool (CY c),τ)) (h2: ∀ c τ,call 54 [.int .u8 c] τ=some (.bool (B6 c),τ)) {k:Nat} (s:B) (hs:s.length<1000000) (hk:s.length<k) (σ:SS.St) :
 t29 call k [.str s] σ=some (.bool (isWord s),σ):=by
 have hl:=D6 (P:=t29_0 call k) (I:=λτ=>τ=σ) (mk:=λi=>[.str s,.int .i64 (i:Int)]) (fin:=[.str s]) (res:=[.bool false]) (id:=0) (n:=s.length)
  (ok:=λi=>if h:i<s.length then CY (by8 s[i])||(!(decide ((i:Int)=0))&&B6 (by8 s[i])) else true)
  (by
    rintro i τ hi rfl ho
    rw [dif_pos hi] at ho;refine ⟨τ,?_,rfl⟩;unfold t29_0;simp (disch:=omega) only [↓reduceIte,↓rK,rP,h1,h2];cases e1:CY (by8 s[i])<;>cases e2:B6 (by8 s[i])<;>cases e3:decide ((i:Int)=0)<;>simp_all)
  (by
    rintro i τ hi rfl ho
    rw [dif_pos hi] at ho;refine ⟨τ,?_,rfl⟩;unfold t29_0;simp (disch:=omega) only [↓reduceIte,↓rK,rP,h1,h2];cases e1:CY (by8 s[i])<;>cases e2:B6 (by8 s[i])<;>cases e3:decide ((i:Int)=0)<;>simp_all)
  (by
    rintro τ rfl
    refine ⟨τ,?_,rfl⟩;unfold t29_0;simp (disch:=omega) only [↓reduceIte,↓rK,rP])
  s.length 0 k σ (by omega) hk rfl
 obtain ⟨τ,h3,rfl⟩:=hl;have hw:DN (λi=>if h:i<s.length then CY (by8 s[i])||(!(decide ((i:Int)=0))&&B6 (by8 s[i])) else true) s.length 0=GM true s:=by
  have key: ∀ (r i:Nat) (t:B) (f:Bool),t=s.drop i->i+r=s.length->(f=decide (i=0))->DN (λi=>if h:i<s.length then CY (by8 s[i])||(!(decide ((i:Int)=0))&&B6 (by8 s[i])) else true) r i=GM f t:=by
   intro r
   induction r with
   | zero =>
    intro i t f ht hi _;have:t=[]:=by rw [ht];exact List.drop_of_length_le (by omega)
    subst this;rfl
   | succ r ih =>
    intro i t f ht hi hf;have hlt:i<s.length:=by omega
    rw [List.drop_eq_getElem_cons hlt] at ht;subst ht;show (_&&_)=(_&&_);rw [ih (i+1) _ false rfl (by omega) (by simp),hf];have:decide ((i:Int)=0)=decide (i=0):=decide_eq_decide.2 (by omega);simp only [dif_pos hlt,this]
  exact key s.length 0 s true (by simp) (by omega) rfl
 rw [hw] at h3;unfold t29;simp only [Gn,EQ];rw [show ((0:Nat):Int)=0 from rfl] at h3;rw [h3];unfold t29_1 isWord;cases GM true s with
 | false=>simp only [cond_false,↓rK,rP,AL]
 | true =>
  simp only [cond_true,↓rK,rP,AL];have a1:decide (1<=(s.length:Int))=decide (1<=s.length):=decide_eq_decide.2 (by omega);have a2:decide ((s.length:Int)<=8)=decide (s.length<=8):=decide_eq_decide.2 (by omega);rw [a1,a2]
theorem JR {α:Type} {l:List α} {p:α->Bool} {q:Nat->Bool} (h: ∀ (i:Nat) (hi:i<l.length),q i=p l[i]):DN q l.length 0=l.all p :=
 RA p q l λi x hx=>by
  obtain ⟨hi,rfl⟩:=List.getElem?_eq_some_iff.1 hx;exact h i hi
section
variable (call:SS.Call) (k:Nat) (σ:SS.St)
theorem xD (c:Int):t30 call k [.int .i64 c] σ=some (.bool (decide (-999<=c)&&decide (c<=999)),σ):=by
 unfold t30;simp only [↓rK,rP,AL];rfl
theorem dR (c:Int):t57 call k [.int .i64 c] σ=some (.bool (decide (1<=c)&&decide (c<=999)),σ):=by
 unfold t57;simp only [↓rK,rP,AL]
end
theorem IY {α:Type} (f:α->B) (s:B) (l:List α):find s (l.map f)=match l.findIdx? (λx=>decide (f x=s)) with | some i=>(i:Int) | none=>-1:=by
 unfold find;rw [List.findIdx?_map];have:(λx=>decide (f x=s))=((λx=>x==s)∘f):=by
  funext x;rw [Bool.eq_iff_iff];simp [Function.comp]
 rw [this];cases List.findIdx? ((λx=>x==s)∘f) l<;>rfl
theorem wZ {call:SS.Call} {k:Nat} (m:AQ) (s:B) (hm:m.vars.length<1000000) (hk:m.vars.length<k) :
 ∃ σ,t59 call k [AP.enc m,.str s] .empty=some (.int .i64 (m.variable s),σ):=by
 have hl:=Hd (P:=t59_0 call k) (I:=λτ=>τ.get 0=some (.blk (V.cellsF (AP.enc m)) 30 0 false)) (mk:=λi=>[.str s,.ptr 0 0 0,.int .i64 (i:Int)]) (res:=λi=>[.int .i64 (i:Int)]) (fin:=[]) (id:=0) (n:=m.vars.length)
  (p:=λi=>if h:i<m.vars.length then decide (m.vars[i].name=s) else false)
  (by
    intro i τ hi hI hp;simp only [dif_pos hi] at hp;refine ⟨τ,?_,hI⟩;unfold t59_0;simp (disch:=omega) only [↓reduceIte,↓rK,rP,hI,hp];rfl)
  (by
    intro i τ hi hI hp;simp only [dif_pos hi] at hp;refine ⟨τ,?_,hI⟩;unfold t59_0;simp (disch:=omega) only [↓reduceIte,↓rK,rP,hI,hp])
  (by
    intro τ hI;refine ⟨τ,?_,hI⟩;unfold t59_0;simp (disch:=omega) only [↓reduceIte,↓rK,rP,hI])
  m.vars.length 0 k (St.empty.new (.blk (V.cellsF (AP.enc m)) 30 0 false)) (by omega) hk rfl
 obtain ⟨τ,h3,_⟩:=hl;refine ⟨τ,?_⟩;unfold t59;simp only [H8,EQ,H7,BD];rw [show ((0:Nat):Int)=0 from rfl] at h3;rw [h3];unfold t59_1 AQ.variable;rw [IY,G7 (λx=>decide (x.name=s)) _ _ (by intro i hi;simp only [dif_pos hi])];cases m.vars.findIdx? (λx=>decide (x.name=s)) with
 | none=>simp only [↓rK,rP,AL];rfl
 | some j=>simp only [↓rK,rP,AL]
theorem qG {call:SS.Call} {k:Nat} (m:AQ) (s:B) (hm:m.procs.length<1000000) (hk:m.procs.length<k) :
 ∃ σ,t55 call k [AP.enc m,.str s] .empty=some (.int .i64 (m.process s),σ):=by
 have hl:=Hd (P:=t55_0 call k) (I:=λτ=>τ.get 0=some (.blk (V.cellsF (AP.enc m)) 30 0 false)) (mk:=λi=>[.str s,.ptr 0 0 0,.int .i64 (i:Int)]) (res:=λi=>[.int .i64 (i:Int)]) (fin:=[]) (id:=0) (n:=m.procs.length)
  (p:=λi=>if h:i<m.procs.length then decide (m.procs[i].name=s) else false)
  (by
    intro i τ hi hI hp;simp only [dif_pos hi] at hp;refine ⟨τ,?_,hI⟩;unfold t55_0;simp (disch:=omega) only [↓reduceIte,↓rK,rP,hI,hp];rfl)
  (by
    intro i τ hi hI hp;simp only [dif_pos hi] at hp;refine ⟨τ,?_,hI⟩;unfold t55_0;simp (disch:=omega) only [↓reduceIte,↓rK,rP,hI,hp])
  (by
    intro τ hI;refine ⟨τ,?_,hI⟩;unfold t55_0;simp (disch:=omega) only [↓reduceIte,↓rK,rP,hI])
  m.procs.length 0 k (St.empty.new (.blk (V.cellsF (AP.enc m)) 30 0 false)) (by omega) hk rfl
 obtain ⟨τ,h3,_⟩:=hl;refine ⟨τ,?_⟩;unfold t55;simp only [H8,EQ,H7,BD];rw [show ((0:Nat):Int)=0 from rfl] at h3;rw [h3];unfold t55_1 AQ.process;rw [IY,G7 (λx=>decide (x.name=s)) _ _ (by intro i hi;simp only [dif_pos hi])];cases m.procs.findIdx? (λx=>decide (x.name=s)) with
 | none=>simp only [↓rK,rP,AL];rfl
 | some j=>simp only [↓rK,rP,AL]
theorem pR {call:SS.Call} {k:Nat} (m:AQ) (p:Int) (s:B) (hp:p<m.procs.length) (hm: ∀ q∈m.procs,q.locs.length<1000000/\q.locs.length<k) :
 ∃ σ,t45 call k [AP.enc m,.int .i64 p,.str s] .empty=some (.int .i64 (m.place p s),σ):=by
 by_cases hneg:p<0
 ·refine ⟨St.empty.new (.blk (V.cellsF (AP.enc m)) 30 0 false),?_⟩;unfold t45 AQ.place;simp (disch:=omega) only [↓reduceIte,↓rK,rP,AL,hneg];rfl
 ·obtain ⟨q,rfl⟩: ∃ q:Nat,p=(q:Int):=⟨p.toNat,by omega⟩
  have hq:q<m.procs.length:=by omega
  obtain ⟨h1,hk⟩:=hm _ (List.getElem_mem hq)
  have hl:=Hd (P:=t45_0 call k) (I:=λτ=>τ.get 0=some (.blk (V.cellsF (AP.enc m)) 30 0 false)) (mk:=λi=>[.int .i64 (q:Int),.str s,.ptr 0 0 0,.int .i64 (i:Int)]) (res:=λi=>[.int .i64 (i:Int)]) (fin:=[]) (id:=0) (n:=m.procs[q].locs.length)
   (p:=λi=>if h:i<m.procs[q].locs.length then decide (m.procs[q].locs[i]=s) else false)
   (by
     intro i τ hi hI hp;simp only [dif_pos hi] at hp;refine ⟨τ,?_,hI⟩;unfold t45_0;simp (disch:=omega) only [↓reduceIte,↓rK,rP,hI,hp];rfl)
   (by
     intro i τ hi hI hp;simp only [dif_pos hi] at hp;refine ⟨τ,?_,hI⟩;unfold t45_0;simp (disch:=omega) only [↓reduceIte,↓rK,rP,hI,hp])
   (by
     intro τ hI;refine ⟨τ,?_,hI⟩;unfold t45_0;simp (disch:=omega) only [↓reduceIte,↓rK,rP,hI])
   m.procs[q].locs.length 0 k (St.empty.new (.blk (V.cellsF (AP.enc m)) 30 0 false)) (by omega) hk rfl
  obtain ⟨τ,h3,_⟩:=hl;refine ⟨τ,?_⟩;unfold t45;simp (disch:=omega) only [NV,EQ,H7,BD,Qk,XD,Qn,decide_eq_false,Bool.false_eq_true,if_false];rw [show ((0:Nat):Int)=0 from rfl] at h3;rw [h3];unfold t45_1 AQ.place;rw [if_neg hneg,Int.toNat_natCast,List.getElem?_eq_getElem hq];simp only;have e:=IY (λx:B=>x) s m.procs[q].locs;rw [List.map_id'] at e;rw [e,G7 (λx=>decide (x=s)) _ _ (by intro i hi;simp only [dif_pos hi])];cases m.procs[q].locs.findIdx? (λx=>decide (x=s)) with
  | none=>simp only [↓rK,rP,AL];rfl
  | some j=>simp only [↓rK,rP,AL]
theorem V9: ∀ l:List B,twice l=true↔∃ i j,∃ (hi:i<l.length) (hj:j<i),l[i]=l[j]
 | []=>by simp [twice]
 | a :: l=>by
  show (twice l||l.contains a)=true↔_;rw [Bool.or_eq_true,V9 l,List.contains_iff_exists_mem_beq];constructor
  ·rintro (⟨i,j,hi,hj,e⟩ | ⟨b,hb,e⟩)
   ·exact ⟨i+1,j+1,by simpa using hi,by omega,by simpa using e⟩
   ·obtain ⟨i,hi,rfl⟩:=List.getElem_of_mem hb;exact ⟨i+1,0,by simpa using hi,by omega,by simpa using (beq_iff_eq.1 e).symm⟩
  ·rintro ⟨i,j,hi,hj,e⟩
   obtain ⟨i,rfl⟩: ∃ i',i=i'+1:=⟨i - 1,by omega⟩
   cases j with
   | zero=>exact .inr ⟨l[i]'(by simpa using hi),List.getElem_mem _,by simp at e;rw [e];simp⟩
   | succ j=>exact .inl ⟨i,j,by simpa using hi,by omega,by simpa using e⟩
theorem wB {call:SS.Call} {k:Nat} (l:List B) (hl:l.length<1000000) (hk:l.length<k) (σ:SS.St) :
 t31 call k [(AA AC).enc l] σ=some (.bool (twice l),σ):=by
 have inner: ∀ i,i<l.length->t31_2 call k [(AA AC).enc l,.int .i64 (i:Int)] σ=bif DN (λj=>if h:i<l.length/\j<l.length then decide (l[i]≠l[j]) else true) i 0 then some (.norm,[(AA AC).enc l,.int .i64 ((i+1:Nat):Int)],σ) else some (.ret,[.bool true],σ):=by
  intro i hi
  obtain ⟨τ,h3,rfl⟩:=D6 (P:=t31_0 call k) (I:=λτ=>τ=σ) (mk:=λj=>[(AA AC).enc l,.int .i64 (i:Int),.int .i64 (j:Int)]) (fin:=[(AA AC).enc l,.int .i64 (i:Int)]) (res:=[.bool true]) (id:=2) (n:=i)
   (ok:=λj=>if h:i<l.length/\j<l.length then decide (l[i]≠l[j]) else true)
   (by
     rintro j τ hj rfl ho
     have hj2:j<l.length:=by omega
     simp only [dif_pos (And.intro hi hj2)] at ho;have ho:decide (l[i]=l[j])=false:=by simpa using ho
     refine ⟨τ,?_,rfl⟩;unfold t31_0;simp (disch:=omega) only [↓reduceIte,↓rK,rP,ho];rfl)
   (by
     rintro j τ hj rfl ho
     have hj2:j<l.length:=by omega
     simp only [dif_pos (And.intro hi hj2)] at ho;have ho:decide (l[i]=l[j])=true:=by simpa using ho
     refine ⟨τ,?_,rfl⟩;unfold t31_0;simp (disch:=omega) only [↓reduceIte,↓rK,rP,ho])
   (by
     rintro τ rfl
     refine ⟨τ,?_,rfl⟩;unfold t31_0;simp (disch:=omega) only [↓reduceIte,↓rK,rP])
   i 0 k σ (by omega) (by omega) rfl
  unfold t31_2;simp (disch:=omega) only [↓reduceIte,↓rK,rP];rw [show ((0:Nat):Int)=0 from rfl] at h3;rw [h3];unfold t31_1;cases DN (λj=>if h:i<l.length/\j<l.length then decide (l[i]≠l[j]) else true) i 0 with
  | true=>simp (disch:=omega) only [↓rK,rP,cond_true];rfl
  | false=>simp (disch:=omega) only [rP,cond_false]
 obtain ⟨τ,h3,rfl⟩:=D6 (P:=t31_2 call k) (I:=λτ=>τ=σ) (mk:=λi=>[(AA AC).enc l,.int .i64 (i:Int)]) (fin:=[]) (res:=[.bool true]) (id:=0) (n:=l.length)
  (ok:=λi=>DN (λj=>if h:i<l.length/\j<l.length then decide (l[i]≠l[j]) else true) i 0)
  (by
    rintro i τ hi rfl ho
    refine ⟨τ,?_,rfl⟩;rw [inner i hi,ho];rfl)
  (by
    rintro i τ hi rfl ho
    refine ⟨τ,?_,rfl⟩;rw [inner i hi,ho];rfl)
  (by
    rintro τ rfl
    refine ⟨τ,?_,rfl⟩;unfold t31_2;simp (disch:=omega) only [↓reduceIte,↓rK,rP])
  l.length 0 k σ (by omega) hk rfl
 rw [show ((0:Nat):Int)=0 from rfl] at h3;unfold t31;simp only [Gn,EQ];rw [h3];unfold t31_3;have key:(!twice l)=DN (λi=>DN (λj=>if h:i<l.length/\j<l.length then decide (l[i]≠l[j]) else true) i 0) l.length 0:=by
  rw [Bool.eq_iff_iff,Bool.not_eq_true',<-Bool.not_eq_true,V9,GS];constructor
  ·intro h i _ hi;rw [GS];intro j _ hj;have hi:i<l.length:=by omega
   rw [dif_pos ⟨hi,by omega⟩];exact decide_eq_true λe=>h ⟨i,j,hi,by omega,e⟩
  ·rintro h ⟨i,j,hi,hj,e⟩
   have:=h i (by omega) (by omega);rw [GS] at this;have:=this j (by omega) (by omega);rw [dif_pos ⟨hi,by omega⟩] at this;exact of_decide_eq_true this e
 rw [<-key];cases twice l<;>simp only [↓rK,rP,AL,cond_true,cond_false]
theorem ZT {call:SS.Call} {k:Nat} (h1: ∀ (s:B) τ,s.length<1000000->call 29 [.str s] τ=some (.bool (isWord s),τ)) (s:B) (hs:s.length<1000000) (σ:SS.St) :
 t56 call k [.str s] σ=some (.tup [.str s.dropLast,.bool (Eb s)],σ):=by
 unfold t56;by_cases h:s=[]
 ·subst h;simp (disch:=omega) only [↓reduceIte,↓rK,rP,AL];rfl
 ·have hl:0<s.length:=List.length_pos_iff.2 h;have e1:((s.length:Int) - 1)=((s.length - 1:Nat):Int):=by omega
  have e2:s.dropLast.length<1000000:=by rw [List.length_dropLast];omega
  simp (disch:=omega) only [↓reduceIte,↓rK,rP,h,e1];simp (disch:=omega) only [↓rK,rP,AL,Nat.sub_zero,<-List.dropLast_eq_take,h1 _ _ e2];rw [show s.drop (s.length - 1)=[s.getLast h] by rw [List.drop_eq_getElem_cons (by omega),List.drop_of_length_le (by omega),List.getLast_eq_getElem]];unfold Eb;have e3:s.getLast? = some (s.getLast h):=List.getLast?_eq_some_getLast h;have e4:(s==[])=false:=by simpa using h
  have e5: ∀ c:UInt8,decide ([s.getLast h]=[c])=(s.getLast? == some c):=by
   intro c;rw [e3,Bool.eq_iff_iff];simp
  rw [e4,e5,e5,Bool.false_or]
end Go.Proofs.YtglndmmlghpdpaaGreatDoor
namespace Go.Proofs.YtglndmmlghpdpaaGreatDoor
open Go SS
set_option maxRecDepth 100000
theorem Cv:(env.P.info? 122).map (·.size)=some 4:=by kernel_rfl
theorem FW:(env.P.info? 62).map (·.size)=some 4:=by kernel_rfl
theorem EO:(env.P.info? 43).map (·.size)=some 2:=by kernel_rfl
theorem MR (x y:Operand) (a1 a2 b1 b2:Int) (a3 a4 b3 b4:B) (σ:St):CW env .neq 122 x y (.agg [.int .i64 a1,.int .i64 a2,.str a3,.str a4]) (.agg [.int .i64 b1,.int .i64 b2,.str b3,.str b4]) σ =
 some (.bool (!(decide (a1=b1)&&(decide (a2=b2)&&(decide (a3=b3)&&decide (a4=b4)))))):=by
 have h:CW env .neq 122 x y (.agg [.int .i64 a1,.int .i64 a2,.str a3,.str a4]) (.agg [.int .i64 b1,.int .i64 b2,.str b3,.str b4]) σ =
  some (.bool (!((a1==b1)&&((a2==b2)&&(ED a3 b3&&(ED a4 b4&&true)))))):=by kernel_rfl
 rw [h,<-KQ,<-KQ,NS,NS,Bool.and_true];rfl
def Ci (l:List Ao):Prop:=l.length<1000000/\∀ t∈l,t.name.length<1000000/\t.loc.length<1000000
set_option maxHeartbeats 8000000 in
theorem rR {call:SS.Call} {k:Nat} (h1: ∀ (s:B) τ,s.length<1000000->call 29 [.str s] τ=some (.bool (isWord s),τ)) (h2: ∀ (n:Int) τ,call 103 [.int .i64 n] τ=some (.int .i64 (arity n),τ))
 (l:List Ao) (hs:Ci l) (hk:l.length<k) (σ:SS.St): ∃ σ',t77 call k [(AA Al).enc l] σ=some (.bool (Cl l),σ'):=by
 have hl:=Bl (P:=t77_1 call k) (Inv:=λm vs τ=>∃ (i:Nat) (n:Int),m+i=l.length/\vs=[(AA Al).enc l,.int .i64 n,.int .i64 (i:Int)]/\0<=n/\n<=i/\DU (l.drop i) n=DU l 0)
  (Q:=λx=>(x.1=.exit 0/\∃ n,x.2.1=[(AA Al).enc l,.int .i64 n]/\DU l 0=some n)\/(x.1=.ret/\x.2.1=[.bool false]/\DU l 0=none))
  (by
    rintro m vs τ ⟨i,n,hm,rfl,hn0,hni,hr⟩
    have hlen:=hs.1;by_cases hi:i<l.length
    ·obtain ⟨hn1,hn2⟩:=hs.2 _ (List.getElem_mem hi);have ha:arity l[i].op=-1\/arity l[i].op=0\/arity l[i].op=1\/arity l[i].op=2:=by unfold arity;split<;>(try split)<;>(try split)<;>simp
     rw [List.drop_eq_getElem_cons hi] at hr;have hr:(if l[i].may=true/\arity l[i].op<=n then DU (l.drop (i+1)) (n - arity l[i].op+1) else none)=DU l 0:=hr;obtain ⟨r,hr1⟩: ∃ r,t77_1 call k [(AA Al).enc l,.int .i64 n,.int .i64 (i:Int)] τ=r:=⟨_,rfl⟩
     rw [hr1];unfold t77_1 at hr1
     have fin: ∀ (C:Bool) (a:Int) (τa τb:St),a=arity l[i].op->C=!(l[i].may&&decide (arity l[i].op<=n))->((if C=true then some (.ret,[.bool false],τa) else CQ 9223372036854775807 IntKind.i64 n a λx=>Ab 9223372036854775807 IntKind.i64 x 1 λy=>some (.norm,[(AA Al).enc l,.int .i64 y,.int .i64 ((i:Int)+1)],τb))=r) ->
      (∃ m' vs' σ',m'<m/\r=some (.norm,vs',σ')/\∃ (i:Nat) (n:Int),m'+i=l.length/\vs'=[(AA Al).enc l,.int .i64 n,.int .i64 (i:Int)]/\0<=n/\n<=i/\DU (l.drop i) n=DU l 0) \/
      ∃ e vs' σ',r=some (e,vs',σ')/\e≠.norm/\(((e,vs',σ').1=.exit 0/\∃ n,(e,vs',σ').2.1=[(AA Al).enc l,.int .i64 n]/\DU l 0=some n)\/((e,vs',σ').1=.ret/\(e,vs',σ').2.1=[.bool false]/\DU l 0=none)):=by
      rintro C a τa τb rfl hC h
      cases hb:(l[i].may&&decide (arity l[i].op<=n)) with
      | false =>
       rw [hb] at hC;subst hC;rw [if_pos (show (!false)=true from rfl)] at h;refine .inr ⟨_,_,_,h.symm,(by intro h;cases h),.inr ⟨rfl,rfl,?_⟩⟩;rw [<-hr,if_neg];intro hx;rw [hx.1,decide_eq_true hx.2] at hb;cases hb
      | true =>
       rw [hb] at hC;subst hC;rw [Bool.and_eq_true,decide_eq_true_eq] at hb;rw [if_pos hb] at hr;have ha0:0<=arity l[i].op:=by
        rcases ha with e | e | e | e<;>rw [e]<;>try decide
        exfalso
        have hm:=hb.1;unfold Ao.may at hm;unfold arity at e hm;split at e<;>grind
       rw [if_neg (by decide)] at h;simp (disch:=omega) only [Qt,NP] at h;refine .inl ⟨m - 1,_,_,by omega,h.symm,i+1,n - arity l[i].op+1,by omega,by simp,by omega,by omega,hr⟩
     by_cases o1:l[i].op=1
     ·simp (disch:=try exact dD _) only [↓reduceIte,↓rK,rP,Nat.reduceAdd,Ay Cv,h2,o1] at hr1;unfold t77_0 at hr1;simp (disch:=try exact dD _) only [↓reduceIte,↓rK,rO,Nat.reduceAdd,h1,MR] at hr1;refine fin _ _ _ _ (by rw [o1]) ?_ hr1;unfold Ao.may arity
      grind
     by_cases o2:l[i].op=2
     ·simp (disch:=try exact dD _) only [↓reduceIte,↓rK,rP,Nat.reduceAdd,Ay Cv,h2,o2] at hr1;unfold t77_0 at hr1;simp (disch:=try exact dD _) only [↓reduceIte,↓rK,rO,Nat.reduceAdd,h1,MR] at hr1;refine fin _ _ _ _ (by rw [o2]) ?_ hr1;unfold Ao.may arity
      grind
     by_cases o3:l[i].op=3
     ·simp (disch:=try exact dD _) only [↓reduceIte,↓rK,rP,Nat.reduceAdd,Ay Cv,h2,o3] at hr1;unfold t77_0 at hr1;simp (disch:=try exact dD _) only [↓reduceIte,↓rK,rO,Nat.reduceAdd,h1,MR] at hr1;refine fin _ _ _ _ (by rw [o3]) ?_ hr1;unfold Ao.may arity
      grind
     ·clear ha;simp (disch:=try exact dD _) only [↓reduceIte,↓rK,rP,Ay Cv,h2,o1,o2,o3] at hr1;unfold t77_0 at hr1;simp (disch:=try exact dD _) only [↓reduceIte,↓rK,rO,Nat.reduceAdd,h1,o2,o3,MR] at hr1;refine fin _ _ _ _ rfl ?_ hr1;unfold Ao.may arity
      grind
    ·have he:i=l.length:=by omega
     subst he;refine .inr ⟨.exit 0,[(AA Al).enc l,.int .i64 n],τ,?_,(by intro h;cases h),.inl ⟨rfl,n,rfl,?_⟩⟩
     ·unfold t77_1;simp (disch:=try exact dD _) only [↓reduceIte,↓rK,rP]
     ·rw [<-hr,List.drop_length];rfl)
  l.length k [(AA Al).enc l,.int .i64 0,.int .i64 0] σ hk ⟨0,0,by omega,rfl,by omega,by omega,rfl⟩
 obtain ⟨e,vs',σ',h3,_,hQ⟩:=hl;refine ⟨σ',?_⟩;unfold t77;simp only [Gn,EQ,h3];unfold t77_2 Cl;rcases hQ with ⟨e1,n,e2,e3⟩ | ⟨e1,e2,e3⟩
 ·simp only at e1 e2;rw [e1,e2,e3];simp (disch:=try exact dD _) only [↓rK,rP,AL];have a1:decide ((l.length:Int)<=30)=decide (l.length<=30):=decide_eq_decide.2 (by omega);rw [a1];have a2:decide (n=1)=(n==1):=rfl;rw [a2];simp
 ·simp only at e1 e2;rw [e1,e2,e3];simp (disch:=try exact dD _) only [↓rK,rP,AL];rfl
def Dl (t:Br):Prop:=t.proc.length<1000000/\t.from_.length<1000000/\t.to.length<1000000/\t.sync.length<1000000/\Ci t.guard/\t.effs.length<1000000/\∀ e∈t.effs,e.name.length<1000000/\Ci e.to
structure Ae (m:AQ):Prop where
 vars:m.vars.length<1000000
 var: ∀ v∈m.vars,v.name.length<1000000
 procs:m.procs.length<1000000
 proc: ∀ p∈m.procs,p.name.length<1000000/\p.locs.length<1000000/\∀ s∈p.locs,s.length<1000000
 trans:m.trans.length<1000000
 tran: ∀ t∈m.trans,Dl t
theorem bF (s:B) (l:List B):find s l<l.length:=by
 unfold find
 split
 ·rename_i i h;have:=(List.findIdx?_eq_some_iff_getElem.1 h).1;omega
 ·omega
theorem P4 (m:AQ) (s:B):m.process s<m.procs.length:=by
 have:=bF s (m.procs.map (·.name));rw [List.length_map] at this;exact this
structure Qv (call:SS.Call):Prop where
 isWord: ∀ (s:B) τ,s.length<1000000->call 29 [.str s] τ=some (.bool (isWord s),τ)
 variable_: ∀ (m:AQ) (s:B) τ,Ae m->call 59 [AP.enc m,.str s] τ=some (.int .i64 (m.variable s),τ)
 process: ∀ (m:AQ) (s:B) τ,Ae m->call 55 [AP.enc m,.str s] τ=some (.int .i64 (m.process s),τ)
 place: ∀ (m:AQ) (p:Int) (s:B) τ,Ae m->p<m.procs.length->call 45 [AP.enc m,.int .i64 p,.str s] τ=some (.int .i64 (m.place p s),τ)
 right: ∀ (l:List Ao) τ,Ci l->call 77 [(AA Al).enc l] τ=some (.bool (Cl l),τ)
theorem lT {call:SS.Call} (h:Qv call) {k:Nat} (m:AQ) (l:List Ao) (hm:Ae m) (hs:Ci l) (hk:l.length<k) :
 ∃ σ',t58 call k [AP.enc m,(AA Al).enc l] .empty=some (.bool (m.known l),σ'):=by
 have h1:=h.isWord;have h2:=h.variable_;have h3:=h.process;have h4:=h.place;have h5:=h.right
 have hlen:=hs.1
 have hb: ∀ (i:Nat) τ (hi:i<l.length),τ.get 0=some (.blk (V.cellsF (AP.enc m)) 30 0 false) ->
  t58_0 call k [(AA Al).enc l,.ptr 0 0 0,.int .i64 (i:Int)] τ=bif m.knows l[i] then some (.norm,[(AA Al).enc l,.ptr 0 0 0,.int .i64 ((i+1:Nat):Int)],τ) else some (.ret,[.bool false],τ):=by
  intro i τ hi hI;have hp:=P4 m l[i].name;unfold t58_0;simp (disch:=try exact dD _) only [↓reduceIte,↓rK,rP,Nat.reduceAdd,hI,h2,h3,h4];unfold AQ.knows;by_cases o2:l[i].op=2
  ·have o3:¬l[i].op=3:=by omega
   simp only [o2];by_cases hv:m.variable l[i].name<0
   ·have:¬0<=m.variable l[i].name:=by omega
    simp [hv,this]
   ·have:0<=m.variable l[i].name:=by omega
    simp [hv,this]
  ·by_cases o3:l[i].op=3
   ·simp only [o3];by_cases hv:m.place (m.process l[i].name) l[i].loc<0
    ·have:¬0<=m.place (m.process l[i].name) l[i].loc:=by omega
     simp [hv,this]
    ·have:0<=m.place (m.process l[i].name) l[i].loc:=by omega
     simp [hv,this]
   ·simp [o2,o3]
 obtain ⟨τ,h6,h7⟩:=D6 (P:=t58_0 call k) (I:=λτ=>τ.get 0=some (.blk (V.cellsF (AP.enc m)) 30 0 false)) (mk:=λi=>[(AA Al).enc l,.ptr 0 0 0,.int .i64 (i:Int)]) (fin:=[(AA Al).enc l]) (res:=[.bool false]) (id:=0) (n:=l.length)
  (ok:=λi=>if h:i<l.length then m.knows l[i] else true)
  (by
    intro i τ hi hI ho;simp only [dif_pos hi] at ho;exact ⟨τ,by rw [hb i τ hi hI,ho];rfl,hI⟩)
  (by
    intro i τ hi hI ho;simp only [dif_pos hi] at ho;exact ⟨τ,by rw [hb i τ hi hI,ho];rfl,hI⟩)
  (by
    intro τ hI;refine ⟨τ,?_,hI⟩;unfold t58_0;simp (disch:=try exact dD _) only [↓reduceIte,↓rK,rP])
  l.length 0 k (St.empty.new (.blk (V.cellsF (AP.enc m)) 30 0 false)) (by omega) hk rfl
 rw [show ((0:Nat):Int)=0 from rfl,JR (p:=m.knows) (by intro i hi;simp only [dif_pos hi])] at h6;refine ⟨τ,?_⟩;unfold t58;simp only [H8,EQ,H7,BD,h6];unfold t58_1 AQ.known;cases l.all m.knows with
 | false=>simp only [rP,AL,cond_false]
 | true=>simp (disch:=try exact dD _) only [↓rK,rP,AL,cond_true,h5]
theorem rM {call:SS.Call} (h:Qv call) (h6: ∀ (s:B) τ,s.length<1000000->call 56 [.str s] τ=some (.tup [.str s.dropLast,.bool (Eb s)],τ)) (h7: ∀ (c:Int) τ,call 57 [.int .i64 c] τ=some (.bool (decide (1<=c)&&decide (c<=999)),τ))
 (h8: ∀ (m:AQ) (l:List Ao) τ,Ae m->Ci l->call 58 [AP.enc m,(AA Al).enc l] τ=some (.bool (m.known l),τ)) {k:Nat} (m:AQ) (t:Br) (hm:Ae m) (hs:Dl t) (hk:t.effs.length<k) :
 ∃ σ',t32 call k [AP.enc m,BF.enc t] .empty=some (.bool (m.rightT t),σ'):=by
 have h2:=h.variable_;have h3:=h.process;have h4:=h.place
 obtain ⟨s1,s2,s3,s4,s5,s6,s7⟩:=hs
 have hb: ∀ (i:Nat) τ (hi:i<t.effs.length),(τ.get 0=some (.blk (V.cellsF (AP.enc m)) 30 0 false)/\τ.get 1=some (.blk (V.cellsF (BF.enc t)) 70 0 false)) ->
  t32_0 call k [.ptr 0 0 0,.ptr 1 0 0,.int .i64 (i:Int)] τ=bif decide (0<=m.variable t.effs[i].name)&&m.known t.effs[i].to then some (.norm,[.ptr 0 0 0,.ptr 1 0 0,.int .i64 ((i+1:Nat):Int)],τ) else some (.ret,[.bool false],τ):=by
  rintro i τ hi ⟨hI,hJ⟩
  obtain ⟨e1,e2⟩:=s7 _ (List.getElem_mem hi);unfold t32_0;simp (disch:=try exact dD _) only [↓reduceIte,↓rK,rP,Nat.reduceAdd,hI,hJ,h2,h8];by_cases hv:m.variable t.effs[i].name<0
  ·have:¬0<=m.variable t.effs[i].name:=by omega
   simp [hv,this]
  ·have:0<=m.variable t.effs[i].name:=by omega
   cases m.known t.effs[i].to<;>simp [hv,this]
 obtain ⟨τ,g1,g2⟩:=D6 (P:=t32_0 call k) (I:=λτ=>τ.get 0=some (.blk (V.cellsF (AP.enc m)) 30 0 false)/\τ.get 1=some (.blk (V.cellsF (BF.enc t)) 70 0 false)) (mk:=λi=>[.ptr 0 0 0,.ptr 1 0 0,.int .i64 (i:Int)]) (fin:=[]) (res:=[.bool false]) (id:=0) (n:=t.effs.length)
  (ok:=λi=>if h:i<t.effs.length then decide (0<=m.variable t.effs[i].name)&&m.known t.effs[i].to else true)
  (by
    intro i τ hi hI ho;simp only [dif_pos hi] at ho;exact ⟨τ,by rw [hb i τ hi hI,ho];rfl,hI⟩)
  (by
    intro i τ hi hI ho;simp only [dif_pos hi] at ho;exact ⟨τ,by rw [hb i τ hi hI,ho];rfl,hI⟩)
  (by
    rintro τ ⟨hI,hJ⟩
    refine ⟨τ,?_,hI,hJ⟩;unfold t32_0;simp (disch:=try exact dD _) only [↓reduceIte,↓rK,rP,hJ])
  t.effs.length 0 k ((St.empty.new (.blk (V.cellsF (AP.enc m)) 30 0 false)).new (.blk (V.cellsF (BF.enc t)) 70 0 false)) (by omega) hk ⟨by simp [St.zAe,Aa,BD],by simp [St.zAe,Aa,BD]⟩
 rw [show ((0:Nat):Int)=0 from rfl,JR (p:=λe=>decide (0<=m.variable e.name)&&m.known e.to) (by intro i hi;simp only [dif_pos hi])] at g1;have hp:=P4 m t.proc;obtain ⟨r,hr⟩: ∃ r,t32 call k [AP.enc m,BF.enc t] .empty=r:=⟨_,rfl⟩
 rw [hr];unfold t32 at hr;simp (disch:=try exact dD _) only [↓reduceIte,↓rK,rO,Nat.reduceAdd,Nat.reduceEqDiff,h3,h4,h6,h7,h8] at hr;simp only [Cj,OI] at g1;rw [g1] at hr;unfold t32_1 at hr;have hall:t.effs.all (λe=>decide (0<=m.variable e.name)&&m.known e.to)=t.effs.all λe=>decide (0<=m.variable e.name)&&m.known e.to:=rfl
 cases ha:t.effs.all (λe=>decide (0<=m.variable e.name)&&m.known e.to) with
 | false =>
  rw [ha] at hr;split at hr<;>simp only [rO,AL,cond_false] at hr<;>exact ⟨_,hr.symm.trans (congrArg (λb=>some (V.bool b,_)) (by unfold AQ.rightT;rw [ha];simp))⟩
 | true =>
  rw [ha] at hr;split at hr
  ·rename_i hC;simp only [rO,AL] at hr;exact ⟨_,hr.symm.trans (congrArg (λb=>some (V.bool b,_)) (by unfold AQ.rightT;rw [ha];grind))⟩
  ·rename_i hC;simp only [↓rK,rO,AL,cond_true] at hr;exact ⟨_,hr.symm.trans (congrArg (λb=>some (V.bool b,_)) (by unfold AQ.rightT;rw [ha];grind))⟩
theorem Ju {τ:St} {v:V} {l:List B} {b:Nat} (h:Lst τ 9 1 v l.length (rows AC l) b):Bd env τ [v]=some [(AA AC).enc l]:=by
 have hi:(env.P.info? 9).map (·.size)=some 1:=by kernel_rfl
 have hd:env.P.underlying 9=some .string:=by kernel_rfl
 obtain ⟨i,h1,h2⟩:=Option.map_eq_some_iff.1 hi;have hf:=UH (E:=env) (n:=63) h h1 hd h2 (by decide) (λ_=>rfl) (λ_=>rfl) VZ (by decide);have hk:v.kind≠0:=by
  rcases h with ⟨rfl,_⟩ | ⟨_,rfl,_⟩<;>intro h<;>cases h
 show (match (bif Nat.beq v.kind 0 then some v else frz env τ D4 v),Bd env τ [] with | some x,some xs=>some (x :: xs) | _,_=>none)=_;have:Nat.beq v.kind 0=false:=by rw [Gd];exact decide_eq_false hk
 rw [this];show (match frz env τ 64 v,_ with | some x,some xs=>some (x :: xs) | _,_=>none)=_;rw [hf];rfl
structure J9 (call:SS.Call):Prop where
 isWord: ∀ (s:B) τ,s.length<1000000->call 29 [.str s] τ=some (.bool (isWord s),τ)
 within999: ∀ (c:Int) τ,call 30 [.int .i64 c] τ=some (.bool (decide (-999<=c)&&decide (c<=999)),τ)
 twice: ∀ (v:V) (l:List B) τ,Bd env τ [v]=some [(AA AC).enc l]->l.length<1000000->call 31 [v] τ=some (.bool (twice l),τ)
 rightT: ∀ (m:AQ) (t:Br) τ,Ae m->Dl t->call 32 [AP.enc m,BF.enc t] τ=some (.bool (m.rightT t),τ)
theorem rW {call:SS.Call} (h:J9 call) {k:Nat} (m:AQ) (hm:Ae m) (hk:m.vars.length<k) :
 ∃ e vs' τ,Ai (t8_0 call k) k [.ptr 0 0 0,.nilS,.nilS,.int .i64 0] (St.empty.new (.blk (V.cellsF (AP.enc m)) 30 0 false))=some (e,vs',τ)/\e≠.norm /\
  ((e=.exit 0/\∃ x b,vs'=[.ptr 0 0 0,x,.nilS]/\τ.get 0=some (.blk (V.cellsF (AP.enc m)) 30 0 false)/\0<τ.n/\Lst τ 9 1 x m.vars.length (rows AC (m.vars.map (·.name))) b/\b≠0/\m.vars.all (·.right)=true) \/
   (e=.ret/\vs'=[.bool false]/\m.vars.all (·.right)=false)):=by
 have h1:=h.isWord;have h2:=h.within999
 have hlen:=hm.vars
 refine Bl (Inv:=λr vs τ=>∃ (i:Nat) (x:V) (b:Nat),r+i=m.vars.length/\vs=[.ptr 0 0 0,x,.nilS,.int .i64 (i:Int)]/\τ.get 0=some (.blk (V.cellsF (AP.enc m)) 30 0 false)/\0<τ.n/\Lst τ 9 1 x i (rows AC ((m.vars.take i).map (·.name))) b/\b≠0/\(m.vars.take i).all (·.right)=true)
  (Q:=λy=>(y.1=.exit 0/\∃ x b,y.2.1=[.ptr 0 0 0,x,.nilS]/\y.2.2.get 0=some (.blk (V.cellsF (AP.enc m)) 30 0 false)/\0<y.2.2.n/\Lst y.2.2 9 1 x m.vars.length (rows AC (m.vars.map (·.name))) b/\b≠0/\m.vars.all (·.right)=true) \/
    (y.1=.ret/\y.2.1=[.bool false]/\m.vars.all (·.right)=false))
  ?_ m.vars.length k [.ptr 0 0 0,.nilS,.nilS,.int .i64 0] (St.empty.new (.blk (V.cellsF (AP.enc m)) 30 0 false)) hk ⟨0,.nilS,1,by omega,rfl,rfl,by rw [Aa];omega,C5 _ _ _ _,by decide,rfl⟩
 rintro r vs τ ⟨i,x,b,hr,rfl,hI,hn,hL,hb0,hall⟩
 by_cases hi:i<m.vars.length
 ·have hw:=hm.var _ (List.getElem_mem hi);obtain ⟨b1,hL1,hb1⟩:=EI 5 hL
  have hL2:=hL1.of (σ':=(τ.new (.blk [.str [],.int .i64 0,.int .i64 0,.int .i64 0] 62 0 false)).put τ.n (.blk [.str m.vars[i].name,.int .i64 m.vars[i].low,.int .i64 m.vars[i].high,.int .i64 m.vars[i].init] 62 0 false))
   (λhc=>by rw [St.zAg,if_neg (by omega),St.zAe,if_neg (by omega)]) (by rw [A9,Aa];omega)
  obtain ⟨x',b',σ',ha,hL',hn',hfr,hb',hbn'⟩:=DQ (new:=[.str m.vars[i].name]) hL2 (by omega) rfl (by decide);rw [A9,Aa] at hn' hfr hb';have hv:σ'.get τ.n=some (.blk [.str m.vars[i].name,.int .i64 m.vars[i].low,.int .i64 m.vars[i].high,.int .i64 m.vars[i].init] 62 0 false):=by
   rw [hfr τ.n (by omega) (by omega),St.zAg,if_pos rfl]
  have h0:σ'.get 0=some (.blk (V.cellsF (AP.enc m)) 30 0 false):=by
   rw [hfr 0 (by omega) (by omega),St.zAg,if_neg (by omega),St.zAe,if_neg (by omega)];exact hI
  have hrow:rows AC ((m.vars.take (i+1)).map (·.name))=rows AC ((m.vars.take i).map (·.name))++[.str m.vars[i].name]:=by
   rw [List.take_succ_eq_append_getElem hi,List.map_append];exact DI AC _ _
  obtain ⟨q,hq⟩: ∃ q,t8_0 call k [.ptr 0 0 0,x,.nilS,.int .i64 (i:Int)] τ=q:=⟨_,rfl⟩
  rw [hq];unfold t8_0 at hq;simp (disch:=try exact dD _) only [↓reduceIte,↓rK,rP,hI,Ay FW] at hq;simp (disch:=try exact dD _) only [↓reduceIte,↓rK,rO,ha,hv,h1,h2] at hq;have hbad:(!isWord m.vars[i].name||decide (m.vars[i].init<m.vars[i].low)||decide (m.vars[i].high<m.vars[i].init)||!(decide (-999<=m.vars[i].low)&&decide (m.vars[i].low<=999))||!(decide (-999<=m.vars[i].high)&&decide (m.vars[i].high<=999)))=!m.vars[i].right:=by
   unfold Var.right
   grind
  rw [hbad] at hq;cases hr2:m.vars[i].right with
  | false =>
   rw [hr2] at hq;refine .inr ⟨.ret,[.bool false],σ',hq.symm,(by intro h;cases h),.inr ⟨rfl,rfl,?_⟩⟩;rw [List.all_eq_false];exact ⟨_,List.getElem_mem hi,by simp [hr2]⟩
  | true =>
   rw [hr2] at hq;refine .inl ⟨r - 1,_,σ',by omega,hq.symm.trans rfl,i+1,x',b',by omega,by simp,h0,by omega,?_,by omega,?_⟩
   ·rw [hrow];exact hL'
   ·rw [List.take_succ_eq_append_getElem hi,List.all_append,hall];simp [hr2]
 ·have he:i=m.vars.length:=by omega
  subst he;rw [List.take_length] at hL hall;refine .inr ⟨.exit 0,_,τ,?_,(by intro h;cases h),.inl ⟨rfl,x,b,rfl,hI,hn,hL,hb0,hall⟩⟩;unfold t8_0;simp (disch:=try exact dD _) only [↓reduceIte,↓rK,rP,hI]
theorem rT {call:SS.Call} (h:J9 call) {k:Nat} (p:Bi) (hp:p.locs.length<1000000/\∀ s∈p.locs,s.length<1000000) (hk:p.locs.length<k) (a b c d:V) (q:Nat) (τ:St) (hq:τ.get q=some (.blk [.str p.name,(AA AC).enc p.locs] 43 0 false)) :
 Ai (t8_1 call k) k [a,b,c,d,.ptr q 0 0,.int .i64 0] τ=bif p.locs.all isWord then some (.exit 4,[a,b,c,d],τ) else some (.ret,[.bool false],τ):=by
 have h1:=h.isWord;have hlen:=hp.1;have hb: ∀ (i:Nat) (hi:i<p.locs.length),t8_1 call k [a,b,c,d,.ptr q 0 0,.int .i64 (i:Int)] τ=bif isWord p.locs[i] then some (.norm,[a,b,c,d,.ptr q 0 0,.int .i64 ((i+1:Nat):Int)],τ) else some (.ret,[.bool false],τ):=by
  intro i hi;have hw:=hp.2 _ (List.getElem_mem hi);unfold t8_1;simp (disch:=try exact dD _) only [↓reduceIte,↓rK,rP,hq,h1];cases isWord p.locs[i]<;>rfl
 obtain ⟨σ',g1,rfl⟩:=D6 (P:=t8_1 call k) (I:=λσ=>σ=τ) (mk:=λi=>[a,b,c,d,.ptr q 0 0,.int .i64 (i:Int)]) (fin:=[a,b,c,d]) (res:=[.bool false]) (id:=4) (n:=p.locs.length)
  (ok:=λi=>if h:i<p.locs.length then isWord p.locs[i] else true)
  (by
    rintro i σ hi rfl ho
    simp only [dif_pos hi] at ho;exact ⟨σ,by rw [hb i hi,ho];rfl,rfl⟩)
  (by
    rintro i σ hi rfl ho
    simp only [dif_pos hi] at ho;exact ⟨σ,by rw [hb i hi,ho];rfl,rfl⟩)
  (by
    rintro σ rfl
    refine ⟨σ,?_,rfl⟩;unfold t8_1;simp (disch:=try exact dD _) only [↓reduceIte,↓rK,rP,hq])
  p.locs.length 0 k τ (by omega) hk rfl
 rw [show ((0:Nat):Int)=0 from rfl,JR (p:=isWord) (by intro i hi;simp only [dif_pos hi])] at g1;exact g1
theorem rU {call:SS.Call} (h:J9 call) {k:Nat} (m:AQ) (hm:Ae m) (hk:m.procs.length<k) (hk2: ∀ p∈m.procs,p.locs.length<k) (xv:V) (bv nv:Nat) (cv:List V) (τ0:St) (h0:τ0.get 0=some (.blk (V.cellsF (AP.enc m)) 30 0 false)) (hn0:0<τ0.n) (hv0:Lst τ0 9 1 xv nv cv bv) (hbv:bv≠0) :
 ∃ e vs' τ,Ai (t8_3 call k) k [.ptr 0 0 0,xv,.nilS,.int .i64 0] τ0=some (e,vs',τ)/\e≠.norm /\
  ((e=.exit 2/\∃ x b bw,vs'=[.ptr 0 0 0,xv,x]/\τ.get 0=some (.blk (V.cellsF (AP.enc m)) 30 0 false)/\Lst τ 9 1 xv nv cv bw/\Lst τ 9 1 x m.procs.length (rows AC (m.procs.map (·.name))) b/\m.procs.all (·.right)=true) \/
   (e=.ret/\vs'=[.bool false]/\m.procs.all (·.right)=false)):=by
 have h1:=h.isWord;have h2:=h.twice
 have hlen:=hm.procs
 refine Bl (Inv:=λr vs τ=>∃ (i:Nat) (x:V) (b bv:Nat),r+i=m.procs.length/\vs=[.ptr 0 0 0,xv,x,.int .i64 (i:Int)]/\τ.get 0=some (.blk (V.cellsF (AP.enc m)) 30 0 false)/\0<τ.n/\Lst τ 9 1 xv nv cv bv/\bv≠0/\Lst τ 9 1 x i (rows AC ((m.procs.take i).map (·.name))) b/\b≠0/\b≠bv/\(m.procs.take i).all (·.right)=true)
  (Q:=λy=>(y.1=.exit 2/\∃ x b bw,y.2.1=[.ptr 0 0 0,xv,x]/\y.2.2.get 0=some (.blk (V.cellsF (AP.enc m)) 30 0 false)/\Lst y.2.2 9 1 xv nv cv bw/\Lst y.2.2 9 1 x m.procs.length (rows AC (m.procs.map (·.name))) b/\m.procs.all (·.right)=true) \/
    (y.1=.ret/\y.2.1=[.bool false]/\m.procs.all (·.right)=false))
  ?_ m.procs.length k [.ptr 0 0 0,xv,.nilS,.int .i64 0] τ0 hk ⟨0,.nilS,bv+1,bv,by omega,rfl,h0,hn0,hv0,hbv,C5 _ _ _ _,by omega,by omega,rfl⟩
 rintro r vs τ ⟨i,x,b,bv,hr,rfl,hI,hn,hV,hbv,hL,hb0,hbb,hall⟩
 by_cases hi:i<m.procs.length
 ·obtain ⟨hw1,hw2,hw3⟩:=hm.proc _ (List.getElem_mem hi);have hkk:=hk2 _ (List.getElem_mem hi);obtain ⟨b1,hL1,hb1⟩:=EI 5 hL;obtain ⟨bv1,hV1,hbv1⟩:=EI 7 hV;have far: ∀ c,c<τ.n->((τ.new (.blk [.str [],.nilS] 43 0 false)).put τ.n (.blk [.str m.procs[i].name,(AA AC).enc m.procs[i].locs] 43 0 false)).get c=τ.get c:=λc hc=>by rw [St.zAg,if_neg (by omega),St.zAe,if_neg (by omega)]
  have hL2:=hL1.of (σ':=(τ.new (.blk [.str [],.nilS] 43 0 false)).put τ.n (.blk [.str m.procs[i].name,(AA AC).enc m.procs[i].locs] 43 0 false)) (λhc=>far _ hc) (by rw [A9,Aa];omega);have hV2:=hV1.of (σ':=(τ.new (.blk [.str [],.nilS] 43 0 false)).put τ.n (.blk [.str m.procs[i].name,(AA AC).enc m.procs[i].locs] 43 0 false)) (λhc=>far _ hc) (by rw [A9,Aa];omega);obtain ⟨x',b',σ',ha,hL',hn',hfr,hb',hbn'⟩:=DQ (new:=[.str m.procs[i].name]) hL2 (by omega) rfl (by decide);have hV3:=hV2.of (σ':=σ') (λhc=>hfr _ hc (by rw [A9,Aa] at hc;omega)) hn';rw [A9,Aa] at hn' hfr hb';have hv:σ'.get τ.n=some (.blk [.str m.procs[i].name,(AA AC).enc m.procs[i].locs] 43 0 false):=by
   rw [hfr τ.n (by omega) (by omega),St.zAg,if_pos rfl]
  have h0:σ'.get 0=some (.blk (V.cellsF (AP.enc m)) 30 0 false):=by
   rw [hfr 0 (by omega) (by omega),far 0 hn];exact hI
  have hrow:rows AC ((m.procs.take (i+1)).map (·.name))=rows AC ((m.procs.take i).map (·.name))++[.str m.procs[i].name]:=by
   rw [List.take_succ_eq_append_getElem hi,List.map_append];exact DI AC _ _
  have htw: ∀ σ,call 31 [(AA AC).enc m.procs[i].locs] σ=some (.bool (twice m.procs[i].locs),σ):=λσ=>h2 _ _ σ (G9 (by rw [BM,(AA AC).zero];rfl)) hw2
  have hlo:=rT h m.procs[i] ⟨hw2,hw3⟩ hkk (.ptr 0 0 0) xv x' (.int .i64 (i:Int)) τ.n σ' hv;obtain ⟨q,hq⟩: ∃ q,t8_3 call k [.ptr 0 0 0,xv,x,.int .i64 (i:Int)] τ=q:=⟨_,rfl⟩
  rw [hq];unfold t8_3 at hq;simp (disch:=try exact dD _) only [↓reduceIte,↓rK,rP,hI,Ay EO] at hq;simp (disch:=try exact dD _) only [↓reduceIte,↓rK,rO,ha,hv,h1,htw,hlo] at hq;cases hg:m.procs[i].right with
  | false =>
   have hq2:some (AEx.ret,[V.bool false],σ')=q:=by
    rw [<-hq];unfold Bi.right at hg
    split
    ·rfl
    ·rename_i hC;have:m.procs[i].locs.all isWord=false:=by
      cases ha2:m.procs[i].locs.all isWord with
      | false=>rfl
      | true=>exfalso;rw [ha2] at hg;grind
     rw [this];rfl
   refine .inr ⟨.ret,[.bool false],σ',hq2.symm,(by intro h;cases h),.inr ⟨rfl,rfl,?_⟩⟩;rw [List.all_eq_false];exact ⟨_,List.getElem_mem hi,by simp [hg]⟩
  | true =>
   have hq2:some (AEx.norm,[.ptr 0 0 0,xv,x',.int .i64 (((i+1:Nat):Int))],σ')=q:=by
    rw [<-hq];unfold Bi.right at hg
    split
    ·exfalso;grind
    ·have:m.procs[i].locs.all isWord=true:=by grind
     rw [this];simp only [cond_true];unfold t8_2;simp (disch:=try exact dD _) only [↓rK,rP];rfl
   refine .inl ⟨r - 1,_,σ',by omega,hq2.symm,i+1,x',b',bv1,by omega,rfl,h0,by omega,hV3,by omega,?_,by omega,by omega,?_⟩
   ·rw [hrow];exact hL'
   ·rw [List.take_succ_eq_append_getElem hi,List.all_append,hall];simp [hg]
 ·have he:i=m.procs.length:=by omega
  subst he;rw [List.take_length] at hL hall;refine .inr ⟨.exit 2,_,τ,?_,(by intro h;cases h),.inl ⟨rfl,x,b,bv,rfl,hI,hV,hL,hall⟩⟩;unfold t8_3;simp (disch:=try exact dD _) only [↓reduceIte,↓rK,rP,hI]
theorem Pq: ∀ l:List Int,E7 l=true↔∀ i (h:i+1<l.length),l[i]<l[i+1]
 | []=>by simp [E7]
 | [a]=>by simp [E7]
 | a :: b :: r=>by
  show (decide (a<b)&&E7 (b :: r))=true↔_;rw [Bool.and_eq_true,decide_eq_true_eq,Pq (b :: r)];constructor
  ·rintro ⟨h1,h2⟩ i hi
   cases i with
   | zero=>exact h1
   | succ i=>exact h2 i (by simpa using hi)
  ·intro h;exact ⟨h 0 (by simp),λi hi=>h (i+1) (by simpa using hi)⟩
theorem rV {call:SS.Call} (h:J9 call) {k:Nat} (m:AQ) (hm:Ae m) (hk:m.trans.length<k) (τ:St) (hI:τ.get 0=some (.blk (V.cellsF (AP.enc m)) 30 0 false)) :
 Ai (t8_4 call k) k [.ptr 0 0 0,.int .i64 0] τ=bif m.trans.all m.rightT&&E7 (m.trans.map (·.id)) then some (.exit 6,[],τ) else some (.ret,[.bool false],τ):=by
 have h1:=h.rightT;have hlen:=hm.trans;have hb: ∀ (i:Nat) (hi:i<m.trans.length),t8_4 call k [.ptr 0 0 0,.int .i64 (i:Int)] τ=bif m.rightT m.trans[i]&&(decide (i=0)||decide ((m.trans[i - 1]'(by omega)).id<m.trans[i].id)) then some (.norm,[.ptr 0 0 0,.int .i64 ((i+1:Nat):Int)],τ) else some (.ret,[.bool false],τ):=by
  intro i hi;have hw:=hm.tran _ (List.getElem_mem hi);unfold t8_4;by_cases hz:i=0
  ·subst hz;simp (disch:=try exact dD _) only [↓reduceIte,↓rK,rP,Nat.reduceAdd,hI,h1];cases m.rightT m.trans[0]<;>simp<;>rfl
  ·have e1:(i:Int) - 1=((i - 1:Nat):Int):=by omega
   simp (disch:=try exact dD _) only [↓reduceIte,↓rK,rP,Nat.reduceAdd,hI,h1,e1];by_cases hc:m.trans[i].id<=(m.trans[i - 1]'(by omega)).id
   ·have:¬(m.trans[i - 1]'(by omega)).id<m.trans[i].id:=by omega
    cases m.rightT m.trans[i]<;>simp [hc,this]
   ·have:(m.trans[i - 1]'(by omega)).id<m.trans[i].id:=by omega
    cases m.rightT m.trans[i]<;>simp [hc,this]
 obtain ⟨σ',g1,rfl⟩:=D6 (P:=t8_4 call k) (I:=λσ=>σ=τ) (mk:=λi=>[.ptr 0 0 0,.int .i64 (i:Int)]) (fin:=[]) (res:=[.bool false]) (id:=6) (n:=m.trans.length)
  (ok:=λi=>if h:i<m.trans.length then m.rightT m.trans[i]&&(decide (i=0)||decide ((m.trans[i - 1]'(by omega)).id<m.trans[i].id)) else true)
  (by
    rintro i σ hi rfl ho
    simp only [dif_pos hi] at ho;exact ⟨σ,by rw [hb i hi,ho];rfl,rfl⟩)
  (by
    rintro i σ hi rfl ho
    simp only [dif_pos hi] at ho;exact ⟨σ,by rw [hb i hi,ho];rfl,rfl⟩)
  (by
    rintro σ rfl
    refine ⟨σ,?_,rfl⟩;unfold t8_4;simp (disch:=try exact dD _) only [↓reduceIte,↓rK,rP,hI])
  m.trans.length 0 k τ (by omega) hk rfl
 rw [show ((0:Nat):Int)=0 from rfl] at g1;have key:DN (λi=>if h:i<m.trans.length then m.rightT m.trans[i]&&(decide (i=0)||decide ((m.trans[i - 1]'(by omega)).id<m.trans[i].id)) else true) m.trans.length 0=(m.trans.all m.rightT&&E7 (m.trans.map (·.id))):=by
  rw [Bool.eq_iff_iff,GS,Bool.and_eq_true,List.all_eq_true,Pq];constructor
  ·intro h;refine ⟨λt ht=>?_,λi hi=>?_⟩
   ·obtain ⟨i,hi,rfl⟩:=List.getElem_of_mem ht;have:=h i (by omega) (by omega);simp only [dif_pos hi,Bool.and_eq_true] at this;exact this.1
   ·have hi2:i+1<m.trans.length:=by simpa using hi
    have:=h (i+1) (by omega) (by omega);simp only [dif_pos hi2,Bool.and_eq_true,Bool.or_eq_true,decide_eq_true_eq,Nat.add_sub_cancel] at this;rcases this.2 with h | h
    ·omega
    ·simpa using h
  ·rintro ⟨h1,h2⟩ i _ hi
   have hi:i<m.trans.length:=by omega
   simp only [dif_pos hi,Bool.and_eq_true,Bool.or_eq_true,decide_eq_true_eq];refine ⟨h1 _ (List.getElem_mem hi),?_⟩;cases i with
   | zero=>exact .inl rfl
   | succ i=>exact .inr (by have:=h2 i (by simpa using hi);simpa using this)
 rw [key] at g1;exact g1
theorem rH {call:SS.Call} (h:J9 call) {k:Nat} (m:AQ) (hm:Ae m) (hk1:m.vars.length<k) (hk2:m.procs.length<k) (hk3: ∀ p∈m.procs,p.locs.length<k) (hk4:m.trans.length<k) :
 ∃ σ',t8 call k [AP.enc m] .empty=some (.bool m.right,σ'):=by
 have h2:=h.twice;obtain ⟨r,hr⟩: ∃ r,t8 call k [AP.enc m] .empty=r:=⟨_,rfl⟩
 rw [hr];unfold t8 at hr;simp only [Gn,EQ,H7,BD] at hr;obtain ⟨e,vs',τ,g1,_,g2⟩:=rW h m hm hk1;rw [g1] at hr;rcases g2.symm with ⟨rfl,rfl,hv⟩ | ⟨rfl,x,b,rfl,hI,hn,hL,hb,hv⟩
 ·simp only [↓rK,rO,AL] at hr;exact ⟨_,hr.symm.trans (congrArg (λb=>some (V.bool b,_)) (by unfold AQ.right;rw [hv];rfl))⟩
 simp only [↓rK] at hr;unfold t8_7 at hr;obtain ⟨e,vs',τ2,g3,_,g4⟩:=rU h m hm hk2 hk3 x b _ _ τ hI hn hL hb;simp only [NV,EQ,g3] at hr;rcases g4.symm with ⟨rfl,rfl,hp⟩ | ⟨rfl,y,b2,b3,rfl,hI,hL2,hL3,hp⟩
 ·simp only [↓rK,rO,AL] at hr;exact ⟨_,hr.symm.trans (congrArg (λb=>some (V.bool b,_)) (by unfold AQ.right;rw [hv,hp];rfl))⟩
 simp only [↓rK] at hr;unfold t8_6 at hr;have e1: ∀ (K:Int->Option Res),True:=λ_=>trivial
 have hl1:m.vars.length=(m.vars.map (·.name)).length:=by simp
 have hl2:m.procs.length=(m.procs.map (·.name)).length:=by simp
 have t1:=h2 x (m.vars.map (·.name)) τ2 (Ju (by rw [<-hl1];exact hL2)) (by rw [<-hl1];exact hm.vars);have t2:=h2 y (m.procs.map (·.name)) τ2 (Ju (by rw [<-hl2];exact hL3)) (by rw [<-hl2];exact hm.procs);have a1:=λK=>hL2.len (R:=AEx×List V×St) K
 have a2:=λK=>hL3.len (R:=AEx×List V×St) K
 have a3:=λK=>hL2.len (R:=Bool×St) K
 have a4:=λK=>hL3.len (R:=Bool×St) K
 have g5:=rV h m hm hk4 τ2 hI;simp only [↓reduceIte,↓rK,rO,hI,a1,a4,t1,t2,g5] at hr;unfold t8_5 at hr;cases ha:(m.trans.all m.rightT&&E7 (m.trans.map (·.id))) with
 | false =>
  rw [ha] at hr;have:m.right=false:=by unfold AQ.right;rw [ha];simp
  rw [this];split at hr<;>simp only [rO,AL,cond_false] at hr<;>exact ⟨_,hr.symm⟩
 | true =>
  rw [ha] at hr;split at hr
  ·rename_i hC;simp only [rO,AL] at hr;exact ⟨_,hr.symm.trans (congrArg (λb=>some (V.bool b,_)) (by unfold AQ.right;rw [ha,hv,hp];grind))⟩
  ·rename_i hC;simp only [↓rK,rO,AL,cond_true] at hr;exact ⟨_,hr.symm.trans (congrArg (λb=>some (V.bool b,_)) (by unfold AQ.right;rw [ha,hv,hp];grind))⟩
theorem QR {τ:St} {v:V} {l:List B} {b:Nat} (h:Lst τ 9 1 v l.length (rows AC l) b):Bn env τ v ((AA AC).enc l):=by
 have:=Ju h;have hk:v.kind≠0:=by
  rcases h with ⟨rfl,_⟩ | ⟨_,rfl,_⟩<;>intro h<;>cases h
 have hb:Nat.beq v.kind 0=false:=by rw [Gd];exact decide_eq_false hk
 refine .inr ⟨hk,?_⟩;have e:Bd env τ [v]=(match (bif Nat.beq v.kind 0 then some v else frz env τ D4 v),Bd env τ [] with | some x,some xs=>some (x :: xs) | _,_=>none):=rfl;rw [e,hb] at this;simp only [cond_false] at this;cases hf:frz env τ D4 v with
 | none=>rw [hf] at this;cases this
 | some x=>rw [hf] at this;injection this with this;injection this with this _;rw [this]
theorem vF (s:B) (i j:Nat) (h:i<=j):(s.drop i).take (j - i)++s.drop j=s.drop i:=by
 have:=List.take_append_drop (j - i) (s.drop i);rw [List.drop_drop] at this;rw [show i+(j - i)=j by omega] at this;exact this
theorem Ze {call:SS.Call} {k:Nat} (s:B) (c:UInt8) (hs:s.length<1900000) (hk:s.length<k) :
 ∃ v τ b,t10 call k [.str s,.int .u8 (by8 c)] .empty=some (v,τ)/\Lst τ 9 1 v (cut c s).length (rows AC (cut c s)) b:=by
 obtain ⟨e,vs',τ,g1,_,g2⟩:=Bl (P:=t10_1 call k) (Inv:=λr vs τ=>∃ (i fr:Nat) (x:V) (b:Nat) (done:List B),r+i=s.length/\fr<=i/\vs=[.str s,.int .u8 (by8 c),x,.int .i64 (fr:Int),.int .i64 (i:Int)]/\Lst τ 9 1 x done.length (rows AC done) b/\done.length<=fr/\cut c s=done++cut c (s.drop fr)/\∀ d∈(s.drop fr).take (i - fr),d≠c)
  (Q:=λy=>y.1=.exit 0/\∃ (fr:Nat) (x:V) (b:Nat) (done:List B),y.2.1=[.str s,x,.int .i64 (fr:Int)]/\fr<=s.length/\done.length<=fr/\Lst y.2.2 9 1 x done.length (rows AC done) b/\cut c s=done++[s.drop fr])
  (by
    rintro r vs τ ⟨i,fr,x,b,done,hr,hfr,rfl,hL,hdl,hcut,hcl⟩
    by_cases hi:i<s.length
    ·by_cases hc:s[i]=c
     ·have hbc:by8 s[i]=by8 c:=by rw [hc]
      obtain ⟨x',b',σ',ha,hL',_⟩:=DQ (new:=[.str ((s.drop fr).take (i - fr))]) hL (by omega) rfl (by decide);obtain ⟨q,hq⟩: ∃ q,t10_1 call k [.str s,.int .u8 (by8 c),x,.int .i64 (fr:Int),.int .i64 (i:Int)] τ=q:=⟨_,rfl⟩
      rw [hq];unfold t10_1 t10_0 at hq;simp (disch:=try exact dD _) only [↓reduceIte,↓rK,rP,hbc,ha] at hq;refine .inl ⟨r - 1,_,_,by omega,hq.symm,i+1,i+1,x',b',done++[(s.drop fr).take (i - fr)],by omega,by omega,rfl,?_,?_,?_,?_⟩
      ·rw [DI,List.length_append];exact hL'
      ·rw [List.length_append];simp;omega
      ·rw [hcut,List.append_assoc]
       congr 1
       have:s.drop fr=(s.drop fr).take (i - fr)++c :: s.drop (i+1):=by
        rw [<-hc,<-List.drop_eq_getElem_cons hi,vF s fr i hfr]
       conv=>lhs;rw [this]
       rw [OU c _ hcl];rfl
      ·simp
     ·have hbc:¬by8 s[i]=by8 c:=by
       intro h;exact hc (UInt8.toNat_inj.1 (Int.ofNat.inj h))
      obtain ⟨q,hq⟩: ∃ q,t10_1 call k [.str s,.int .u8 (by8 c),x,.int .i64 (fr:Int),.int .i64 (i:Int)] τ=q:=⟨_,rfl⟩
      rw [hq];unfold t10_1 t10_0 at hq;simp (disch:=try exact dD _) only [↓reduceIte,↓rK,rP,hbc] at hq;refine .inl ⟨r - 1,_,_,by omega,hq.symm,i+1,fr,x,b,done,by omega,by omega,rfl,hL,hdl,hcut,?_⟩;intro d hd;rw [show i+1 - fr=(i - fr)+1 by omega,List.take_succ_eq_append_getElem (by rw [List.length_drop];omega)] at hd;rcases List.mem_append.1 hd with hd | hd
      ·exact hcl d hd
      ·simp only [List.mem_singleton] at hd;rw [hd,List.getElem_drop];simp only [show fr+(i - fr)=i by omega];exact hc
    ·have he:i=s.length:=by omega
     subst he;refine .inr ⟨.exit 0,[.str s,x,.int .i64 (fr:Int)],τ,?_,(by intro h;cases h),rfl,fr,x,b,done,rfl,hfr,hdl,hL,?_⟩
     ·unfold t10_1;simp (disch:=try exact dD _) only [↓reduceIte,↓rK,rP]
     ·rw [hcut]
      congr 1
      refine OW c _ λd hd=>hcl d ?_
      rw [List.take_of_length_le (by rw [List.length_drop];omega)];exact hd)
  s.length k [.str s,.int .u8 (by8 c),.nilS,.int .i64 0,.int .i64 0] .empty hk ⟨0,0,.nilS,0,[],by omega,by omega,rfl,C5 _ _ _ _,by simp,by simp,by simp⟩
 obtain ⟨e1,fr,x,b,done,e2,hfr,hdl,hL,hcut⟩:=g2;simp only at e1 e2 hL;subst e1 e2;obtain ⟨x',b',σ',ha,hL',_⟩:=DQ (new:=[.str (s.drop fr)]) hL (by omega) rfl (by decide);refine ⟨x',σ',b',?_,?_⟩
 ·unfold t10;simp only [H8,EQ,g1];unfold t10_2;simp (disch:=try exact dD _) only [↓rK,rP,AL,ha]
 ·rw [hcut,DI,List.length_append];exact hL'
theorem GX (c:UInt8): ∀ s:B,(cut c s).length<=s.length+1
 | []=>by simp [cut]
 | d :: r=>by
  have:=GX c r;rw [IU]
  split
  ·simp;omega
  ·split
   ·rename_i h t e;rw [e] at this;simp at this ⊢;omega
   ·simp
theorem xH {call:SS.Call} (h1: ∀ (s:B) (c:UInt8) τ,s.length<1000000->call 10 [.str s,.int .u8 (by8 c)] τ=some ((AA AC).enc (cut c s),τ)) {k:Nat} (s:B) (hs:s.length<999999) (hk:s.length+1<k) :
 ∃ v τ b,t47 call k [.str s] .empty=some (v,τ)/\Lst τ 9 1 v (BI s).length (rows AC (BI s)) b:=by
 have hlen:=GX 32 s
 obtain ⟨e,vs',τ,g1,_,g2⟩:=Bl (P:=t47_1 call k) (Inv:=λr vs τ=>∃ (i:Nat) (x:V) (b:Nat) (done:List B),r+i=(cut 32 s).length/\vs=[x,(AA AC).enc (cut 32 s),.int .i64 (i:Int)]/\Lst τ 9 1 x done.length (rows AC done) b/\done=((cut 32 s).take i).filter (λw=>decide (w≠[]))/\done.length<=i)
  (Q:=λy=>y.1=.exit 0/\∃ (x:V) (b:Nat),y.2.1=[x]/\Lst y.2.2 9 1 x (BI s).length (rows AC (BI s)) b)
  (by
    rintro r vs τ ⟨i,x,b,done,hr,rfl,hL,hd,hdl⟩
    by_cases hi:i<(cut 32 s).length
    ·have htk:(cut 32 s).take (i+1)=(cut 32 s).take i++[(cut 32 s)[i]]:=List.take_succ_eq_append_getElem hi;obtain ⟨x',b',σ',ha,hL',_⟩:=DQ (new:=[.str (cut 32 s)[i]]) hL (by omega) rfl (by decide);obtain ⟨q,hq⟩: ∃ q,t47_1 call k [x,(AA AC).enc (cut 32 s),.int .i64 (i:Int)] τ=q:=⟨_,rfl⟩
     rw [hq];unfold t47_1 t47_0 at hq;by_cases hw:(cut 32 s)[i]=[]
     ·simp (disch:=try exact dD _) only [↓reduceIte,↓rK,rP,hw] at hq;refine .inl ⟨r - 1,_,_,by omega,hq.symm,i+1,x,b,done,by omega,rfl,hL,?_,by omega⟩;rw [htk,List.filter_append,<-hd];simp [hw]
     ·simp (disch:=try exact dD _) only [↓reduceIte,↓rK,rP,hw,ha] at hq;refine .inl ⟨r - 1,_,_,by omega,hq.symm,i+1,x',b',done++[(cut 32 s)[i]],by omega,rfl,?_,?_,?_⟩
      ·rw [DI,List.length_append];exact hL'
      ·rw [htk,List.filter_append,<-hd];simp [hw]
      ·rw [List.length_append];simp;omega
    ·have he:i=(cut 32 s).length:=by omega
     subst he;rw [List.take_length] at hd;refine .inr ⟨.exit 0,[x],τ,?_,(by intro h;cases h),rfl,x,b,rfl,?_⟩
     ·unfold t47_1;simp (disch:=try exact dD _) only [↓reduceIte,↓rK,rP]
     ·show Lst τ _ 1 x (BI s).length (rows AC (BI s)) b;unfold BI;rw [<-hd];exact hL)
  (cut 32 s).length k [.nilS,(AA AC).enc (cut 32 s),.int .i64 0] .empty (by omega) ⟨0,.nilS,0,[],by omega,rfl,C5 _ _ _ _,by simp,by simp⟩
 obtain ⟨e1,x,b,e2,hL⟩:=g2;simp only at e1 e2 hL;subst e1 e2;refine ⟨x,τ,b,?_,hL⟩;have hc:=h1 s 32;have h32:by8 32=32:=rfl;rw [h32] at hc;unfold t47;simp (disch:=try exact dD _) only [↓rK,rP,hc,g1];unfold t47_2;simp (disch:=try exact dD _) only [↓rK,rP,AL]
theorem Qf (s:B) (c:UInt8):Dt (s++[c])=10*Dt s+(by8 c - 48):=by simp [Dt]
theorem YV {call:SS.Call} (h1: ∀ c τ,call 54 [.int .u8 c] τ=some (.bool (B6 c),τ)) {k:Nat} (s:B) (hs:s.length<1900000) (hk:s.length<k) (τ:St) :
 Ai (t37_0 call k) k [.str s,.int .i64 0,.int .i64 0] τ=if (s.all (λc=>B6 (by8 c))&&decide (s.length<=3))=true then some (.exit 0,[.str s,.int .i64 (Dt s)],τ) else some (.ret,[.int .i64 0,.bool false],τ):=by
 obtain ⟨e,vs',σ,g1,_,g2⟩:=Bl (P:=t37_0 call k) (Inv:=λr vs σ=>∃ (i:Nat),r+i=s.length/\σ=τ/\vs=[.str s,.int .i64 (Dt (s.take i)),.int .i64 (i:Int)]/\i<=3/\0<=Dt (s.take i)/\Dt (s.take i)<=10 ^ i - 1/\(s.take i).all (λc=>B6 (by8 c))=true)
  (Q:=λy=>y.2.2=τ/\((y.1=.exit 0/\y.2.1=[.str s,.int .i64 (Dt s)]/\s.all (λc=>B6 (by8 c))=true/\s.length<=3)\/(y.1=.ret/\y.2.1=[.int .i64 0,.bool false]/\(s.all (λc=>B6 (by8 c))=false\/3<s.length))))
  (by
    rintro r vs σ ⟨i,hr,rfl,rfl,h3,hv0,hv1,hall⟩
    by_cases hi:i<s.length
    ·have htk:s.take (i+1)=s.take i++[s[i]]:=List.take_succ_eq_append_getElem hi;obtain ⟨q,hq⟩: ∃ q,t37_0 call k [.str s,.int .i64 (Dt (s.take i)),.int .i64 (i:Int)] σ=q:=⟨_,rfl⟩
     rw [hq];unfold t37_0 at hq;have hp:(10:Int) ^ i<=1000:=by
      have:i=0\/i=1\/i=2\/i=3:=by omega
      rcases this with rfl | rfl | rfl | rfl<;>decide
     cases hd:B6 (by8 s[i]) with
     | false =>
      simp (disch:=try exact dD _) only [↓reduceIte,↓rK,rP,h1,hd] at hq;refine .inr ⟨_,_,_,hq.symm,(by intro h;cases h),rfl,.inr ⟨rfl,rfl,.inl ?_⟩⟩;rw [List.all_eq_false];exact ⟨_,List.getElem_mem hi,by simp [hd]⟩
     | true =>
      have hd':=hd;unfold B6 at hd';simp only [Bool.and_eq_true,decide_eq_true_eq] at hd';by_cases h2:2<i
      ·simp (disch:=try exact dD _) only [↓reduceIte,↓rK,rP,h1,hd] at hq;refine .inr ⟨_,_,_,hq.symm,(by intro h;cases h),rfl,.inr ⟨rfl,rfl,.inr (by omega)⟩⟩
      ·simp (disch:=try exact dD _) only [↓reduceIte,↓rK,rP,h1,hd] at hq;refine .inl ⟨r - 1,_,_,by omega,hq.symm,i+1,by omega,rfl,?_,by omega,?_,?_,?_⟩
       ·rw [htk,Qf];rfl
       ·rw [htk,Qf];omega
       ·rw [htk,Qf,Int.pow_succ];omega
       ·rw [htk,List.all_append,hall];simp [hd]
    ·have he:i=s.length:=by omega
     subst he;rw [List.take_length] at hall;rw [List.take_length];refine .inr ⟨.exit 0,[.str s,.int .i64 (Dt s)],σ,?_,(by intro h;cases h),rfl,.inl ⟨rfl,rfl,hall,h3⟩⟩;unfold t37_0;simp (disch:=try exact dD _) only [↓reduceIte,↓rK,rP])
  s.length k [.str s,.int .i64 0,.int .i64 0] τ hk ⟨0,by omega,rfl,rfl,by omega,by simp [Dt],by simp [Dt],by simp⟩
 obtain ⟨e0,g2⟩:=g2;simp only at e0 g2;subst e0;rw [g1];rcases g2 with ⟨e1,e2,e3,e4⟩ | ⟨e1,e2,e3⟩
 ·subst e1 e2;rw [if_pos (by simp only [e3,e4,decide_true,Bool.and_self])]
 ·subst e1 e2;rw [if_neg];intro h;rw [Bool.and_eq_true,decide_eq_true_eq] at h;rcases e3 with e3 | e3
  ·rw [e3] at h;cases h.1
  ·omega
theorem Nw {call:SS.Call} (h1: ∀ c τ,call 54 [.int .u8 c] τ=some (.bool (B6 c),τ)) {k:Nat} (s:B) (hs:s.length<1900000) (hk:s.length<k) (τ:St) :
 t37 call k [.str s,.bool false] τ=some (.tup [.int .i64 (CG s).1,.bool (CG s).2],τ):=by
 have g:=YV h1 s hs hk τ;unfold t37;simp (disch:=try exact dD _) only [↓reduceIte,↓rK,rP,g];unfold CG
 split
 ·unfold t37_1;simp (disch:=try exact dD _) only [↓rK,rP,AL];have a1:decide ((0:Int)<(s.length:Int))=decide (0<s.length):=decide_eq_decide.2 (by omega);rw [a1]
 ·simp (disch:=try exact dD _) only [↓rK,rP,AL]
theorem YU (s:B): -999<=(CG s).1/\(CG s).1<=999/\0<=(CG s).1:=by
 unfold CG
 split
 ·rename_i h;rw [Bool.and_eq_true,decide_eq_true_eq] at h;obtain ⟨h1,h2⟩:=h;have dg: ∀ c∈s,48<=by8 c/\by8 c<=57:=λc hc=>by
   have:=List.all_eq_true.1 h1 c hc;unfold B6 at this;simpa using this
  match s,h2,dg with
  | [],_,_=>simp [Dt]
  | [a],_,dg=>have:=dg a (by simp);simp [Dt];omega
  | [a,b],_,dg=>have:=dg a (by simp);have:=dg b (by simp);simp [Dt];omega
  | [a,b,c],_,dg=>have:=dg a (by simp);have:=dg b (by simp);have:=dg c (by simp);simp [Dt];omega
  | _ :: _ :: _ :: _ :: _,h2,_=>simp at h2
 ·simp
theorem YY {call:SS.Call} (h1: ∀ c τ,call 54 [.int .u8 c] τ=some (.bool (B6 c),τ)) {k:Nat} (h2: ∀ (s:B) τ,s.length<1900000->call 37 [.str s,.bool false] τ=some (.tup [.int .i64 (CG s).1,.bool (CG s).2],τ)) (s:B) (sg:Bool) (hs:s.length<1900000) (hk:s.length<k) (τ:St) :
 t37 call k [.str s,.bool sg] τ=some (.tup [.int .i64 (amount s sg).1,.bool (amount s sg).2],τ):=by
 cases sg with
 | false =>
  rw [Nw h1 s hs hk];have:amount s false=CG s:=by
   unfold amount
   split<;>simp
  rw [this]
 | true =>
  have hf:=Nw h1 s hs hk τ;unfold t37 at hf ⊢;simp (disch:=try exact dD _) only [↓reduceIte,↓rK,rP] at hf ⊢
  match s,hs,hf with
  | [],_,hf=>simp (disch:=try exact dD _) only [↓reduceIte,rP] at hf ⊢;exact hf
  | [c],_,hf=>simp (disch:=try exact dD _) only [↓reduceIte,↓rK,rP] at hf ⊢;exact hf
  | c :: d :: r,hs,hf =>
   have hlt:((1:Int)<((c :: d :: r).length:Int)):=by simp;omega
   simp (disch:=try exact dD _) only [↓rK,rP] at hf ⊢;have hl:(d :: r).length<1900000:=by simp at hs ⊢;omega
   have hl1:1<=(c :: d :: r).length:=by simp
   by_cases hc:c=45
   ·subst hc;have e2:by8 45=45:=rfl;have ev:amount (45 :: d :: r) true=(-(CG (d :: r)).1,(CG (d :: r)).2):=by simp [amount]
    have hb:=YU (d :: r);have h2':=h2 (d :: r) τ hl;rw [e2,ev];simp (disch:=try exact dD _) only [↓reduceIte,↓rK,rP,AL,h2'];simp
   ·have e2:¬by8 c=45:=by
     intro h;exact hc (UInt8.toNat_inj.1 (Int.ofNat.inj h))
    have ev:amount (c :: d :: r) true=CG (c :: d :: r):=by simp [amount,hc]
    rw [ev];simp (disch:=try exact dD _) only [↓reduceIte,rP,e2];exact hf
theorem Z8 {call:SS.Call} {k:Nat} (s:B) (n:Int) (hs:s.length<1000000) (hk:s.length<k) (τ:St) :
 Ai (t50_0 call k) k [.str s,.int .i64 n] τ=some (.exit 2,[.str (s.dropWhile (λc=>c==32)),.int .i64 n],τ):=by
 obtain ⟨e,vs',σ,g1,_,g2⟩:=Bl (P:=t50_0 call k) (Inv:=λr vs σ=>∃ t:B,r=t.length/\σ=τ/\vs=[.str t,.int .i64 n]/\t.dropWhile (λc=>c==32)=s.dropWhile (λc=>c==32)/\t.length<1000000)
  (Q:=λy=>y=(.exit 2,[.str (s.dropWhile (λc=>c==32)),.int .i64 n],τ))
  (by
    rintro r vs σ ⟨t,rfl,rfl,rfl,ht,hl⟩
    cases t with
    | nil =>
     refine .inr ⟨.exit 2,[.str [],.int .i64 n],σ,?_,(by intro h;cases h),?_⟩
     ·unfold t50_0;simp (disch:=try exact dD _) only [↓reduceIte,↓rK,rP]
     ·rw [<-ht];rfl
    | cons c t =>
     have hl0:(0:Int)<((c :: t).length:Int):=by simp only [List.length_cons];omega
     have hl1:1<=(c :: t).length:=by simp
     by_cases hc:c=32
     ·subst hc;have e2:by8 32=32:=rfl;refine .inl ⟨t.length,[.str t,.int .i64 n],σ,by simp,?_,t,rfl,rfl,rfl,?_,by simp at hl;omega⟩
      ·unfold t50_0;simp (disch:=try exact dD _) only [↓reduceIte,↓rK,rP,e2]
      ·rw [<-ht];rfl
     ·have e2:¬by8 c=32:=λh=>hc (UInt8.toNat_inj.1 (Int.ofNat.inj h))
      have e3:(c :: t).dropWhile (λc=>c==32)=c :: t:=by simp [hc]
      refine .inr ⟨.exit 2,[.str (c :: t),.int .i64 n],σ,?_,(by intro h;cases h),?_⟩
      ·unfold t50_0;simp (disch:=try exact dD _) only [↓reduceIte,↓rK,rP,e2]
      ·rw [<-ht,e3])
  s.length k [.str s,.int .i64 n] τ hk ⟨s,rfl,rfl,rfl,rfl,hs⟩
 rw [g1,g2]
theorem Z9 {call:SS.Call} {k:Nat} (s:B) (n:Int) (hs:s.length<1000000) (hk:s.length<k) (τ:St) :
 Ai (t50_1 call k) k [.str s,.int .i64 n] τ=some (.exit 4,[.str (s.dropWhile (λc=>!(c==32))),.int .i64 n],τ):=by
 obtain ⟨e,vs',σ,g1,_,g2⟩:=Bl (P:=t50_1 call k) (Inv:=λr vs σ=>∃ t:B,r=t.length/\σ=τ/\vs=[.str t,.int .i64 n]/\t.dropWhile (λc=>!(c==32))=s.dropWhile (λc=>!(c==32))/\t.length<1000000)
  (Q:=λy=>y=(.exit 4,[.str (s.dropWhile (λc=>!(c==32))),.int .i64 n],τ))
  (by
    rintro r vs σ ⟨t,rfl,rfl,rfl,ht,hl⟩
    cases t with
    | nil =>
     refine .inr ⟨.exit 4,[.str [],.int .i64 n],σ,?_,(by intro h;cases h),?_⟩
     ·unfold t50_1;simp (disch:=try exact dD _) only [↓reduceIte,↓rK,rP]
     ·rw [<-ht];rfl
    | cons c t =>
     have hl0:(0:Int)<((c :: t).length:Int):=by simp only [List.length_cons];omega
     have hl1:1<=(c :: t).length:=by simp
     by_cases hc:c=32
     ·subst hc;have e2:by8 32=32:=rfl;have e3:(32 :: t).dropWhile (λc=>!(c==32))=32 :: t:=by simp
      refine .inr ⟨.exit 4,[.str (32 :: t),.int .i64 n],σ,?_,(by intro h;cases h),?_⟩
      ·unfold t50_1;simp (disch:=try exact dD _) only [↓reduceIte,↓rK,rP,e2]
      ·rw [<-ht,e3]
     ·have e2:¬by8 c=32:=λh=>hc (UInt8.toNat_inj.1 (Int.ofNat.inj h))
      refine .inl ⟨t.length,[.str t,.int .i64 n],σ,by simp,?_,t,rfl,rfl,rfl,?_,by simp at hl;omega⟩
      ·unfold t50_1;simp (disch:=try exact dD _) only [↓reduceIte,↓rK,rP,e2]
      ·rw [<-ht];simp [hc])
  s.length k [.str s,.int .i64 n] τ hk ⟨s,rfl,rfl,rfl,rfl,hs⟩
 rw [g1,g2]
theorem KN (p:UInt8->Bool): ∀ s:B,(s.dropWhile p).length<=s.length
 | []=>by simp
 | c :: r=>by
  have:=KN p r;unfold List.dropWhile
  split<;>simp<;>omega
theorem sV {call:SS.Call} {k:Nat} (s:B) (n:Nat) (hs:s.length<1000000) (hn:n<1000000) (hk:s.length<k) (hkn:n<k) (τ:St) :
 t50 call k [.str s,.int .i64 (n:Int)] τ=some (.str (Cb s n),τ):=by
 obtain ⟨e,vs',σ,g1,_,g2⟩:=Bl (P:=t50_4 call k) (Inv:=λr vs σ=>∃ t:B,σ=τ/\vs=[.str t,.int .i64 (r:Int)]/\Cb t r=Cb s n/\t.length<=s.length/\r<1000000)
  (Q:=λy=>y=(.exit 0,[.str (Cb s n)],τ))
  (by
    rintro r vs σ ⟨t,rfl,rfl,ht,hl,hr⟩
    cases r with
    | zero =>
     refine .inr ⟨.exit 0,[.str t],σ,?_,(by intro h;cases h),?_⟩
     ·unfold t50_4;simp (disch:=try exact dD _) only [↓reduceIte,↓rK,rP]
     ·rw [<-ht];rfl
    | succ r =>
     have d1:=Z8 (call:=call) (k:=k) t ((r+1:Nat):Int) (by omega) (by omega) σ;have l1:=KN (λc=>c==32) t;have d2:=Z9 (call:=call) (k:=k) (t.dropWhile (λc=>c==32)) ((r+1:Nat):Int) (by omega) (by omega) σ;have l2:=KN (λc=>!(c==32)) (t.dropWhile (λc=>c==32));refine .inl ⟨r,[.str ((t.dropWhile (λc=>c==32)).dropWhile (λc=>!(c==32))),.int .i64 (r:Int)],σ,by omega,?_,_,rfl,rfl,ht,by omega,by omega⟩;have h0:((0:Int)<((r+1:Nat):Int)):=by omega
     have hsub:(((r+1:Nat):Int) - 1)=(r:Int):=by omega
     unfold t50_4 t50_3 t50_2;simp (disch:=try exact dD _) only [↓reduceIte,↓rK,rP,h0,d1,d2,hsub])
  n k [.str s,.int .i64 (n:Int)] τ hkn ⟨s,rfl,rfl,rfl,Nat.le_refl _,hn⟩
 unfold t50;simp only [H8,g1,g2];unfold t50_5;simp (disch:=try exact dD _) only [↓rK,rP,AL]
def parseVar:List B->Var×Bool
 | [a,b,c,d]=>(⟨a,(amount b true).1,(amount c true).1,(amount d true).1⟩,(amount b true).2&&((amount c true).2&&(amount d true).2))
 | _=>(⟨[],0,0,0⟩,false)
theorem o9 {call:SS.Call} {k:Nat} (h1: ∀ (s:B) (g:Bool) τ,s.length<1000000->call 37 [.str s,.bool g] τ=some (.tup [.int .i64 (amount s g).1,.bool (amount s g).2],τ)) (l:List B) (hl:l.length<1000000) (hs: ∀ s∈l,s.length<1000000) :
 ∃ σ,t48 call k [(AA AC).enc l] .empty=some (.tup [Az.enc (parseVar l).1,.bool (parseVar l).2],σ):=by
 obtain ⟨r,hr⟩: ∃ r,t48 call k [(AA AC).enc l] .empty=r:=⟨_,rfl⟩
 rw [hr];unfold t48 at hr;by_cases h4:l.length=4
 ·have h4':((l.length:Int)=4):=by omega
  have i0: ∀ τ (K:V->Option (AEx×List V×St)),AZ 1 ((AA AC).enc l) 0 0 τ K=K (.str l[0]):=λτ K=>ER (n:=0) (by omega) K
  have i1: ∀ τ (K:V->Option (AEx×List V×St)),AZ 1 ((AA AC).enc l) 1 0 τ K=K (.str l[1]):=λτ K=>ER (n:=1) (by omega) K
  have i2: ∀ τ (K:V->Option (AEx×List V×St)),AZ 1 ((AA AC).enc l) 2 0 τ K=K (.str l[2]):=λτ K=>ER (n:=2) (by omega) K
  have i3: ∀ τ (K:V->Option (AEx×List V×St)),AZ 1 ((AA AC).enc l) 3 0 τ K=K (.str l[3]):=λτ K=>ER (n:=3) (by omega) K
  have s0:=hs _ (List.getElem_mem (show 0<l.length by omega));have s1:=hs _ (List.getElem_mem (show 1<l.length by omega));have s2:=hs _ (List.getElem_mem (show 2<l.length by omega));have s3:=hs _ (List.getElem_mem (show 3<l.length by omega));simp (disch:=try exact dD _) only [↓reduceIte,↓rK,rP,AL,Nat.reduceAdd,h4',i0,i1,i2,i3,h1,↓BA,BA,Ay FW] at hr;have hv:parseVar l=(⟨l[0],(amount l[1] true).1,(amount l[2] true).1,(amount l[3] true).1⟩,(amount l[1] true).2&&((amount l[2] true).2&&(amount l[3] true).2)):=by
   match l,h4 with
   | [a,b,c,d],_=>rfl
  rw [hv];exact ⟨_,hr.symm.trans (congrArg (λb=>some (V.tup [_,V.bool b],_)) (Bool.and_assoc _ _ _))⟩
 ·have h4':¬((l.length:Int)=4):=by omega
  simp (disch:=try exact dD _) only [↓reduceIte,↓rK,rP,AL,Nat.reduceAdd,h4',Ay FW] at hr;have:parseVar l=(⟨[],0,0,0⟩,false):=by
   unfold parseVar
   split
   ·simp at h4
   ·rfl
  rw [this];exact ⟨_,hr.symm⟩
theorem Lj: ∀ d,d<10->([48,49,50,51,52,53,54,55,56,57].drop d).take (d+1 - d)=[UInt8.ofNat (48+d)]:=by decide
theorem pW {call:SS.Call} {k:Nat} (n:Nat) (hn:n<10000000000000000000) (h: ∀ m τ,m<n->call 89 [.int .u64 ((m:Nat):Int)] τ=some (.str (Bp m),τ)) (hlen:n<4000000000) (τ:St) :
 t89 call k [.int .u64 (n:Int)] τ=some (.str (Bp n),τ):=by
 have hm:n % 10<10:=Nat.mod_lt _ (by omega);have e1: ∀ K:Int->Option (AEx×List V×St),De (n:Int) 10 K=K ((n % 10:Nat):Int):=λK=>LJ n 10 K (by omega)
 have e2: ∀ K:Int->Option (AEx×List V×St),CZ 18446744073709551615 IntKind.u64 (n:Int) 10 K=K ((n / 10:Nat):Int):=λK=>XN n 10 K (by omega) (by omega)
 have e3:(((n % 10:Nat):Int)+1)=((n % 10+1:Nat):Int):=by omega
 have e4:=λK=>J8 (R:=AEx×List V×St) (s:=[48,49,50,51,52,53,54,55,56,57]) (l:=n % 10) (h:=n % 10+1) (by omega) (by simp;omega) K
 unfold t89;by_cases h10:n<10
 ·have hi:((n:Int)<10):=by omega
  have e5:n % 10=n:=Nat.mod_eq_of_lt h10;have ep:Bp n=[UInt8.ofNat (48+n)]:=by unfold Bp;rw [if_pos h10]
  simp (disch:=try exact dD _) only [↓reduceIte,↓rK,rP,AL,e1,e3,Lj _ hm,hi];rw [ep,e5]
 ·have hi:¬((n:Int)<10):=by omega
  have ep:Bp n=Bp (n / 10)++[UInt8.ofNat (48+n % 10)]:=by rw [Bp,if_neg h10]
  have hr:=λτ=>h (n / 10) τ (by omega)
  have hb:=Pz (n / 10);simp (disch:=try exact dD _) only [↓reduceIte,↓rK,rP,AL,e1,e2,e3,Lj _ hm,hi,hr];rw [ep]
theorem pX {call:SS.Call} {k:Nat} (n:Nat) (hlen:n<4000000000) (h:¬n<10->∀ τ,call 89 [.int .u64 ((n / 10:Nat):Int)] τ=some (.str (Bp (n / 10)),τ)) (τ:St) :
 t89 call k [.int .u64 (n:Int)] τ=some (.str (Bp n),τ):=by
 have hm:n % 10<10:=Nat.mod_lt _ (by omega);have e1: ∀ K:Int->Option (AEx×List V×St),De (n:Int) 10 K=K ((n % 10:Nat):Int):=λK=>LJ n 10 K (by omega)
 have e2: ∀ K:Int->Option (AEx×List V×St),CZ 18446744073709551615 IntKind.u64 (n:Int) 10 K=K ((n / 10:Nat):Int):=λK=>XN n 10 K (by omega) (by omega)
 have e3:(((n % 10:Nat):Int)+1)=((n % 10+1:Nat):Int):=by omega
 have e4:=λK=>J8 (R:=AEx×List V×St) (s:=[48,49,50,51,52,53,54,55,56,57]) (l:=n % 10) (h:=n % 10+1) (by omega) (by simp;omega) K
 unfold t89;by_cases h10:n<10
 ·have hi:((n:Int)<10):=by omega
  have e5:n % 10=n:=Nat.mod_eq_of_lt h10;have ep:Bp n=[UInt8.ofNat (48+n)]:=by unfold Bp;rw [if_pos h10]
  simp (disch:=try exact dD _) only [↓reduceIte,↓rK,rP,AL,e1,e3,Lj _ hm,hi];rw [ep,e5]
 ·have hi:¬((n:Int)<10):=by omega
  have ep:Bp n=Bp (n / 10)++[UInt8.ofNat (48+n % 10)]:=by rw [Bp,if_neg h10]
  have hr:=h h10;have hb:=Pz (n / 10);simp (disch:=try exact dD _) only [↓reduceIte,↓rK,rP,AL,e1,e2,e3,Lj _ hm,hi,hr];rw [ep]
theorem Zt {call:SS.Call} {k:Nat} (n:Int) (h1: -1000000<=n) (h2:n<=1000000) (h: ∀ (m:Nat) τ,m<4000000->call 89 [.int .u64 (m:Int)] τ=some (.str (Bp m),τ)) (τ:St) :
 t66 call k [.int .i64 n] τ=some (.str (BK n),τ):=by
 unfold t66;by_cases hn:n<0
 ·have e1:(0 - (n+1)+1)=(((-n).toNat:Nat):Int):=by omega
  have hc:=λτ=>h (-n).toNat τ (by omega)
  have hb:=Pz (-n).toNat;have hd:BK n=45 :: Bp (-n).toNat:=by unfold BK;rw [if_pos hn]
  simp (disch:=try exact dD _) only [↓reduceIte,↓rK,rP,AL,hn,e1,hc];rw [hd];rfl
 ·have e1:n=((n.toNat:Nat):Int):=by omega
  have hc:=λτ=>h n.toNat τ (by omega)
  rw [<-e1] at hc;have hd:BK n=Bp n.toNat:=by unfold BK;rw [if_neg hn]
  simp (disch:=try exact dD _) only [↓reduceIte,↓rK,rP,AL,hn,hc];rw [hd]
def strength (op:Int):Int:=if op=16 then 1 else if op=15 then 2 else if 9<=op/\op<=14 then 3 else if op=7\/op=8 then 4 else if op=6 then 5 else if op=4\/op=5 then 6 else 7
theorem uU (call:SS.Call) (k:Nat) (n:Int) (τ:St):t124 call k [.int .i64 n] τ=some (.int .i64 (strength n),τ):=by
 unfold t124 t124_2 t124_1 t124_0;by_cases h16:n=16
 ·subst h16;simp (disch:=try exact dD _) only [↓reduceIte,↓rK,rP,AL];rfl
 by_cases h15:n=15
 ·subst h15;simp (disch:=try exact dD _) only [↓reduceIte,↓rK,rP,AL];rfl
 by_cases h14:n=14
 ·subst h14;simp (disch:=try exact dD _) only [↓reduceIte,↓rK,rP,AL];rfl
 by_cases h13:n=13
 ·subst h13;simp (disch:=try exact dD _) only [↓reduceIte,↓rK,rP,AL];rfl
 by_cases h12:n=12
 ·subst h12;simp (disch:=try exact dD _) only [↓reduceIte,↓rK,rP,AL];rfl
 by_cases h11:n=11
 ·subst h11;simp (disch:=try exact dD _) only [↓reduceIte,↓rK,rP,AL];rfl
 by_cases h10:n=10
 ·subst h10;simp (disch:=try exact dD _) only [↓reduceIte,↓rK,rP,AL];rfl
 by_cases h9:n=9
 ·subst h9;simp (disch:=try exact dD _) only [↓reduceIte,↓rK,rP,AL];rfl
 by_cases h8:n=8
 ·subst h8;simp (disch:=try exact dD _) only [↓reduceIte,↓rK,rP,AL];rfl
 by_cases h7:n=7
 ·subst h7;simp (disch:=try exact dD _) only [↓reduceIte,↓rK,rP,AL];rfl
 by_cases h6:n=6
 ·subst h6;simp (disch:=try exact dD _) only [↓reduceIte,↓rK,rP,AL];rfl
 by_cases h5:n=5
 ·subst h5;simp (disch:=try exact dD _) only [↓reduceIte,↓rK,rP,AL];rfl
 by_cases h4:n=4
 ·subst h4;simp (disch:=try exact dD _) only [↓reduceIte,↓rK,rP,AL];rfl
 have hs:strength n=7:=by unfold strength;grind
 rw [hs];simp (disch:=try exact dD _) only [↓reduceIte,↓rK,rP,AL,h16,h15,h14,h13,h12,h11,h10,h9,h8,h7,h6,h5,h4]
def KP (l:List Eff):Bool:=l.all (λe=>isWord e.name&&Cl e.to)&&decide (l.length<=3)
def GQ (l:List Eff):Prop:=l.length<1000000/\∀ e∈l,e.name.length<1000000/\Ci e.to
theorem rG {call:SS.Call} {k:Nat} (h1: ∀ (s:B) τ,s.length<1000000->call 29 [.str s] τ=some (.bool (isWord s),τ)) (h2: ∀ (l:List Ao) τ,Ci l->call 77 [(AA Al).enc l] τ=some (.bool (Cl l),τ)) (l:List Eff) (hs:GQ l) (hk:l.length<k) (τ:St) :
 t100 call k [(AA Bg).enc l] τ=some (.bool (KP l),τ):=by
 have hlen:=hs.1;have hb: ∀ (i:Nat) (hi:i<l.length),t100_0 call k [(AA Bg).enc l,.int .i64 (i:Int)] τ=bif isWord l[i].name&&Cl l[i].to then some (.norm,[(AA Bg).enc l,.int .i64 ((i+1:Nat):Int)],τ) else some (.ret,[.bool false],τ):=by
  intro i hi;obtain ⟨w1,w2⟩:=hs.2 _ (List.getElem_mem hi);unfold t100_0;simp (disch:=try exact dD _) only [↓reduceIte,↓rK,rP,h1,h2];cases isWord l[i].name<;>cases Cl l[i].to<;>rfl
 obtain ⟨σ',g1,rfl⟩:=D6 (P:=t100_0 call k) (I:=λσ=>σ=τ) (mk:=λi=>[(AA Bg).enc l,.int .i64 (i:Int)]) (fin:=[(AA Bg).enc l]) (res:=[.bool false]) (id:=0) (n:=l.length)
  (ok:=λi=>if h:i<l.length then isWord l[i].name&&Cl l[i].to else true)
  (by
    rintro i σ hi rfl ho
    simp only [dif_pos hi] at ho;exact ⟨σ,by rw [hb i hi,ho];rfl,rfl⟩)
  (by
    rintro i σ hi rfl ho
    simp only [dif_pos hi] at ho;exact ⟨σ,by rw [hb i hi,ho];rfl,rfl⟩)
  (by
    rintro σ rfl
    refine ⟨σ,?_,rfl⟩;unfold t100_0;simp (disch:=try exact dD _) only [↓reduceIte,↓rK,rP])
  l.length 0 k τ (by omega) hk rfl
 rw [show ((0:Nat):Int)=0 from rfl,JR (p:=λe=>isWord e.name&&Cl e.to) (by intro i hi;simp only [dif_pos hi])] at g1;unfold t100;simp only [Gn,EQ,g1];unfold t100_1 KP;have a1:decide ((l.length:Int)<=3)=decide (l.length<=3):=decide_eq_decide.2 (by omega);cases l.all (λe=>isWord e.name&&Cl e.to) with
 | false=>simp only [rO,AL,cond_false]
 | true=>simp only [↓rK,rO,AL,cond_true,a1]
theorem ar9:env.P.underlying 150=some (.array 9 9):=by kernel_rfl
theorem Yd:env.P.underlying 76=some (.array 17 9):=by kernel_rfl
theorem GJ:(env.P.info? 9).map (·.size)=some 1:=by kernel_rfl
theorem uZ:(env.P.info? 150).map (·.size)=some 9:=by kernel_rfl
theorem uY:(env.P.info? 76).map (·.size)=some 17:=by kernel_rfl
theorem wD:CD env 150 [(0,(V.str [60,61])),(1,(V.str [62,61])),(2,(V.str [61,61])),(3,(V.str [33,61])),(4,(V.str [38,38])),(5,(V.str [124,124])),(6,(V.str [45,62])),(7,(V.str [])),(8,(V.str []))] =
 some (.agg [.str [60,61],.str [62,61],.str [61,61],.str [33,61],.str [38,38],.str [124,124],.str [45,62],.str [],.str []]):=by kernel_rfl
theorem Y4:CD env 76 [(0,(V.str [])),(1,(V.str [])),(2,(V.str [])),(3,(V.str [])),(4,(V.str [])),(5,(V.str [])),(6,(V.str [42])),(7,(V.str [43])),(8,(V.str [45])),(9,(V.str [60])),(10,(V.str [60,61])),(11,(V.str [62])),(12,(V.str [62,61])),(13,(V.str [61,61])),(14,(V.str [33,61])),(15,(V.str [38,38])),(16,(V.str [124,124]))] =
 some (.agg [.str [],.str [],.str [],.str [],.str [],.str [],.str [42],.str [43],.str [45],.str [60],.str [60,61],.str [62],.str [62,61],.str [61,61],.str [33,61],.str [38,38],.str [124,124]]):=by kernel_rfl
theorem sP {call:SS.Call} {k:Nat} (s:B) (hs:s.length<1000000) (h0:1<=s.length) (hk:20<k): ∃ r σ,t122 call k [.str s] .empty=some (.str r,σ)/\r.length<=s.length:=by
 let M:List V:=[.str [60,61],.str [62,61],.str [61,61],.str [33,61],.str [38,38],.str [124,124],.str [45,62],.str [],.str []]
 obtain ⟨e,vs',τ,g1,_,g2⟩:=Bl (P:=t122_0 call k) (Inv:=λr vs τ=>∃ i:Nat,r+i=7/\vs=[.str s,.ptr 0 0 0,.int .i64 (i:Int)]/\τ.get 0=some (.blk M 150 0 false))
  (Q:=λy=>(y.1=.exit 0/\y.2.1=[.str s])\/(y.1=.ret/\∃ r:B,y.2.1=[.str r]/\r.length<=s.length))
  (by
    rintro r vs τ ⟨i,hr,rfl,hI⟩
    by_cases hi:i<7
    ·have hix:=λ(n:Nat) (hn:n<9)=>Qm (b:=0) (ver:=0) (off:=0) ar9 GJ hn
     have hcell: ∃ w:B,M[i]? = some (.str w)/\w.length=2:=by
      have:i=0\/i=1\/i=2\/i=3\/i=4\/i=5\/i=6:=by omega
      rcases this with rfl | rfl | rfl | rfl | rfl | rfl | rfl<;>exact ⟨_,rfl,rfl⟩
     obtain ⟨w,hw,hwl⟩:=hcell;obtain ⟨q,hq⟩: ∃ q,t122_0 call k [.str s,.ptr 0 0 0,.int .i64 (i:Int)] τ=q:=⟨_,rfl⟩
     rw [hq];unfold t122_0 at hq;by_cases h1:(1:Int)<(s.length:Int)
     ·have h2:2<=s.length:=by omega
      simp (disch:=try exact dD _) only [↓reduceIte,↓rK,rP,hix i (by omega),hI,Nat.mul_one,Nat.add_zero,hw] at hq;by_cases he:List.take (2 - 0) s=w
      ·simp (disch:=try exact dD _) only [↓reduceIte,rP,he] at hq;exact .inr ⟨_,_,_,hq.symm,(by intro h;cases h),.inr ⟨rfl,w,rfl,by omega⟩⟩
      ·simp (disch:=try exact dD _) only [↓reduceIte,rP,he] at hq;exact .inl ⟨r - 1,_,_,by omega,hq.symm,i+1,by omega,rfl,hI⟩
     ·simp (disch:=try exact dD _) only [↓reduceIte,↓rK,rP] at hq;exact .inl ⟨r - 1,_,_,by omega,hq.symm,i+1,by omega,rfl,hI⟩
    ·have he:i=7:=by omega
     subst he;refine .inr ⟨.exit 0,[.str s],τ,?_,(by intro h;cases h),.inl ⟨rfl,rfl⟩⟩;unfold t122_0;simp (disch:=try exact dD _) only [↓reduceIte,↓rK,rP])
  7 k [.str s,.ptr 0 0 0,.int .i64 0] ((St.empty.new (.blk [.str [],.str [],.str [],.str [],.str [],.str [],.str [],.str [],.str []] 150 0 false)).put 0 (.blk M 150 0 false)) (by omega) ⟨0,by omega,rfl,by rw [St.zAg,if_pos rfl]⟩
 obtain ⟨q,hq⟩: ∃ q,t122 call k [.str s] .empty=q:=⟨_,rfl⟩
 rw [hq];unfold t122 at hq;simp (disch:=try exact dD _) only [↓rK,rP,wD,Ay uZ] at hq;simp only [M] at g1;rw [g1] at hq;rcases g2 with ⟨e1,e2⟩ | ⟨e1,r,e2,e3⟩
 ·simp only at e1 e2;subst e1 e2;unfold t122_3 at hq
  obtain ⟨e,vs',τ2,g3,_,g4⟩:=Bl (P:=t122_1 call k) (Inv:=λr vs σ=>∃ i:Nat,r+i=13/\vs=[.str s,.str [40,41,91,93,43,45,42,60,62,33,64,59,61],.int .i64 (i:Int)]/\σ=τ)
   (Q:=λy=>(y.1=.exit 2/\y.2.1=[])\/(y.1=.ret/\∃ r:B,y.2.1=[.str r]/\r.length<=s.length))
   (by
     rintro r vs σ ⟨i,hr,rfl,rfl⟩
     obtain ⟨q,hq⟩: ∃ q,t122_1 call k [.str s,.str [40,41,91,93,43,45,42,60,62,33,64,59,61],.int .i64 (i:Int)] σ=q:=⟨_,rfl⟩
     rw [hq];unfold t122_1 at hq;have hlen:([40,41,91,93,43,45,42,60,62,33,64,59,61]:B).length=13:=rfl;have e3:((i:Int)+1)=((i+1:Nat):Int):=by omega
     by_cases hi:i<13
     ·have h13:((i:Int)<13):=by omega
      have hsl:=λK=>J8 (R:=AEx×List V×St) (s:=[40,41,91,93,43,45,42,60,62,33,64,59,61]) (l:=i) (h:=i+1) (by omega) (by rw [hlen];omega) K
      simp (disch:=try exact dD _) only [↓reduceIte,↓rK,rP,Nat.reduceAdd,e3] at hq;by_cases he:List.take (1 - 0) s=List.take (i+1 - i) (List.drop i [40,41,91,93,43,45,42,60,62,33,64,59,61])
      ·simp (disch:=try exact dD _) only [↓reduceIte,rP,he] at hq;exact .inr ⟨_,_,_,hq.symm,(by intro h;cases h),.inr ⟨rfl,_,rfl,by simp;omega⟩⟩
      ·simp (disch:=try exact dD _) only [↓reduceIte,rP,he] at hq;exact .inl ⟨r - 1,_,_,by omega,hq.symm,i+1,by omega,rfl,rfl⟩
     ·have h13:¬((i:Int)<13):=by omega
      simp (disch:=try exact dD _) only [↓reduceIte,↓rK,rP,Nat.reduceAdd] at hq;exact .inr ⟨_,_,_,hq.symm,(by intro h;cases h),.inl ⟨rfl,rfl⟩⟩)
   13 k [.str s,.str [40,41,91,93,43,45,42,60,62,33,64,59,61],.int .i64 0] τ (by omega) ⟨0,by omega,rfl,rfl⟩
  simp (disch:=try exact dD _) only [↓rK,rP] at hq;rw [g3] at hq;rcases g4 with ⟨e1,e2⟩ | ⟨e1,r,e2,e3⟩
  ·simp only at e1 e2;subst e1 e2;unfold t122_2 at hq;simp (disch:=try exact dD _) only [↓rK,rP,AL] at hq;exact ⟨[],_,hq.symm,by simp⟩
  ·simp only at e1 e2;subst e1 e2;simp (disch:=try exact dD _) only [↓rK,rP,AL] at hq;exact ⟨r,_,hq.symm,e3⟩
 ·simp only at e1 e2;subst e1 e2;simp (disch:=try exact dD _) only [↓rK,rP,AL] at hq;exact ⟨r,_,hq.symm,e3⟩
theorem Y2 {call:SS.Call} {k:Nat} (h1: ∀ (n:Int) τ,call 124 [.int .i64 n] τ=some (.int .i64 (strength n),τ)) (t:BZ) (lv:Int) (hk:20<k): ∃ (n:Int) (σ:St),t147 call k [BJ.enc t,.int .i64 lv] .empty=some (.int .i64 n,σ)/\(n=0\/(6<=n/\n<=16/\t.kind=4)):=by
 obtain ⟨q,hq⟩: ∃ q,t147 call k [BJ.enc t,.int .i64 lv] .empty=q:=⟨_,rfl⟩
 rw [hq];unfold t147 at hq;by_cases h4:t.kind=4
 ·let M:List V:=[.str [],.str [],.str [],.str [],.str [],.str [],.str [42],.str [43],.str [45],.str [60],.str [60,61],.str [62],.str [62,61],.str [61,61],.str [33,61],.str [38,38],.str [124,124]]
  obtain ⟨e,vs',τ,g1,_,g2⟩:=Bl (P:=t147_0 call k) (Inv:=λr vs τ=>∃ i:Nat,r+i=17/\6<=i/\vs=[.int .i64 lv,.ptr 0 0 0,.ptr 1 0 0,.int .i64 (i:Int)]/\τ.get 1=some (.blk M 76 0 false)/\τ.get 0=some (.blk [.int .i64 t.kind,.str t.text,.int .i64 t.n,.int .i64 t.at_] 146 0 false))
   (Q:=λy=>(y.1=.exit 0/\y.2.1=[])\/(y.1=.ret/\∃ n:Int,y.2.1=[.int .i64 n]/\6<=n/\n<=16))
   (by
     rintro r vs τ ⟨i,hr,hi6,rfl,hI,hJ⟩
     by_cases hi:i<17
     ·have hix:=λ(n:Nat) (hn:n<17)=>Qm (b:=1) (ver:=0) (off:=0) Yd GJ hn
      have hcell: ∃ w:B,M[i]? = some (.str w):=by
       have:i=6\/i=7\/i=8\/i=9\/i=10\/i=11\/i=12\/i=13\/i=14\/i=15\/i=16:=by omega
       rcases this with rfl | rfl | rfl | rfl | rfl | rfl | rfl | rfl | rfl | rfl | rfl<;>exact ⟨_,rfl⟩
      obtain ⟨w,hw⟩:=hcell;obtain ⟨q,hq⟩: ∃ q,t147_0 call k [.int .i64 lv,.ptr 0 0 0,.ptr 1 0 0,.int .i64 (i:Int)] τ=q:=⟨_,rfl⟩
      rw [hq];unfold t147_0 at hq;simp (disch:=try exact dD _) only [↓reduceIte,↓rK,rP,hix i hi,hI,hJ,Nat.mul_one,Nat.add_zero,hw,h1] at hq;split at hq
      ·exact .inr ⟨_,_,_,hq.symm,(by intro h;cases h),.inr ⟨rfl,_,rfl,by omega,by omega⟩⟩
      ·exact .inl ⟨r - 1,_,_,by omega,hq.symm,i+1,by omega,by omega,rfl,hI,hJ⟩
     ·have he:i=17:=by omega
      subst he;refine .inr ⟨.exit 0,[],τ,?_,(by intro h;cases h),.inl ⟨rfl,rfl⟩⟩;unfold t147_0;simp (disch:=try exact dD _) only [↓reduceIte,↓rK,rP])
   11 k [.int .i64 lv,.ptr 0 0 0,.ptr 1 0 0,.int .i64 6] (((St.empty.new (.blk [.int .i64 t.kind,.str t.text,.int .i64 t.n,.int .i64 t.at_] 146 0 false)).new (.blk [.str [],.str [],.str [],.str [],.str [],.str [],.str [],.str [],.str [],.str [],.str [],.str [],.str [],.str [],.str [],.str [],.str []] 76 0 false)).put 1 (.blk M 76 0 false)) (by omega)
   ⟨6,by omega,by omega,rfl,by rw [St.zAg,if_pos rfl],by simp [St.zAg,St.zAe,Aa,BD]⟩
  simp (disch:=try exact dD _) only [↓reduceIte,↓rK,rP,Y4,Ay uY,h4] at hq;simp only [M,h4] at g1;rw [g1] at hq;rcases g2 with ⟨e1,e2⟩ | ⟨e1,n,e2,e3,e4⟩
  ·simp only at e1 e2;subst e1 e2;unfold t147_1 at hq;simp (disch:=try exact dD _) only [↓rK,rP,AL] at hq;exact ⟨0,_,hq.symm,.inl rfl⟩
  ·simp only at e1 e2;subst e1 e2;simp (disch:=try exact dD _) only [↓rK,rP,AL] at hq;exact ⟨n,_,hq.symm,.inr ⟨e3,e4,h4⟩⟩
 ·simp (disch:=try exact dD _) only [↓reduceIte,↓rK,rP,AL,h4] at hq;exact ⟨0,_,hq.symm,.inl rfl⟩
structure Rd (τ:St) (q:Nat) (toks:List BZ) (a:Nat) (x:V) (out:List Ao) (bad:Int) (b:Nat):Prop where
 blk:τ.get q=some (.blk [(AA BJ).enc toks,.int .i64 (a:Int),x,.int .i64 bad] 177 0 false)
 lt:q<τ.n
 lst:Lst τ 122 4 x out.length (rows Al out) b
 ne:b≠q
theorem Rd.set {τ:St} {q:Nat} {toks:List BZ} {a:Nat} {x:V} {out:List Ao} {bad:Int} {b:Nat} (h:Rd τ q toks a x out bad b) (a':Nat) (bad':Int) :
 Rd (τ.put q (.blk [(AA BJ).enc toks,.int .i64 (a':Int),x,.int .i64 bad'] 177 0 false)) q toks a' x out bad' b :=
 ⟨by rw [St.zAg,if_pos rfl],by rw [A9];exact h.lt,h.lst.of (λ_=>by rw [St.zAg,if_neg h.ne]) (by rw [A9];exact Nat.le_refl _),h.ne⟩
theorem Rd.push {τ:St} {q:Nat} {toks:List BZ} {a:Nat} {x:V} {out:List Ao} {bad:Int} {b:Nat} (h:Rd τ q toks a x out bad b) (ho:out.length<4294967296) (t:Ao) :
 ∃ x' b' σ',(∀ {R:Type} (K:V->St->Option R),BQ 122 4 1 [.int .i64 t.op,.int .i64 t.n,.str t.name,.str t.loc] x τ K=K x' σ')/\x'.one=true /\
  σ'.get q=some (.blk [(AA BJ).enc toks,.int .i64 (a:Int),x,.int .i64 bad] 177 0 false)/\τ.n<=σ'.n /\
  Rd (σ'.put q (.blk [(AA BJ).enc toks,.int .i64 (a:Int),x',.int .i64 bad] 177 0 false)) q toks a x' (out++[t]) bad b':=by
 obtain ⟨x',b',σ',ha,hL',hn',hfr,hb',hbn'⟩:=DQ (new:=(Al.enc t).cells) h.lst ho rfl (by decide);have hlt:=h.lt;have hne:=h.ne;have hbq:b'≠q:=by omega
 refine ⟨x',b',σ',λK=>ha K,hL'.one,by rw [hfr q hlt (λe=>hne e.symm)];exact h.blk,hn',by rw [St.zAg,if_pos rfl],by rw [A9];omega,?_,hbq⟩;rw [DI,List.length_append];exact hL'.of (λ_=>by rw [St.zAg,if_neg hbq]) (by rw [A9];exact Nat.le_refl _)
theorem Rd.new {τ:St} {q:Nat} {toks:List BZ} {a:Nat} {x:V} {out:List Ao} {bad:Int} {b:Nat} (h:Rd τ q toks a x out bad b) {σ':St} (hg: ∀ c,c<τ.n->σ'.get c=τ.get c) (hn:τ.n<=σ'.n): ∃ b',Rd σ' q toks a x out bad b':=by
 have hlt:=h.lt;obtain ⟨b1,hL,hb1⟩:=EI 3 h.lst;have hne:=h.ne;exact ⟨b1,by rw [hg q hlt];exact h.blk,by omega,hL.of (λhc=>hg b1 hc) hn,by omega⟩
theorem kS {call:SS.Call} {k:Nat} {τ:St} {q:Nat} {toks:List BZ} {a:Nat} {x:V} {out:List Ao} {bad:Int} {b:Nat} (h:Rd τ q toks a x out bad b) (ha:a<toks.length) (s:B) :
 t153 call k [.ptr q 0 0,.str s] τ=some (.bool (decide (toks[a].kind=4)&&decide (toks[a].text=s)),τ):=by
 have hb:=h.blk;unfold t153;simp (disch:=try exact dD _) only [↓reduceIte,↓rK,rP,AL,hb]
theorem aS {call:SS.Call} {k:Nat} {τ:St} {q:Nat} {toks:List BZ} {a:Nat} {x:V} {out:List Ao} {b:Nat} (h:Rd τ q toks a x out (-1) b) :
 t154 call k [.ptr q 0 0] τ=some (.tup [],τ.put q (.blk [(AA BJ).enc toks,.int .i64 (a:Int),x,.int .i64 (a:Int)] 177 0 false)):=by
 have hb:=h.blk;unfold t154;simp (disch:=try exact dD _) only [↓reduceIte,↓rK,rP,AL,Nat.reduceAdd,hb]
def Dw (out:List Ao):Prop:=∀ t∈out,t.name.length<1000000/\t.loc.length<1000000
theorem Dw.app {out:List Ao} (h:Dw out) (t:Ao) (h1:t.name.length<1000000) (h2:t.loc.length<1000000):Dw (out++[t]):=by
 intro u hu;rcases List.mem_append.1 hu with hu | hu
 ·exact h u hu
 ·rw [List.mem_singleton.1 hu];exact ⟨h1,h2⟩
structure DM (toks:List BZ):Prop where
 len:toks.length<1000000
 ends: ∀ i (h:i<toks.length),toks[i].kind≠5->i+1<toks.length
 small: ∀ t∈toks,t.text.length<1000000
def EK (τ':St) (q:Nat) (toks:List BZ) (a l:Nat):Prop :=
 ∃ a' x out bad b,Rd τ' q toks a' x out bad b/\a<=a'/\a'<toks.length/\(bad=-1\/(0<=bad/\bad<toks.length))/\out.length+a<=l+a'/\Dw out/\(bad=-1->a<a')
structure Fj (C:Nat->SS.Call) (bop:BZ->Int->Int):Prop where
 level: ∀ k vs σ,C (k+1) 123 vs σ=t123 (C k) k vs σ
 unary: ∀ k vs σ,C (k+1) 146 vs σ=t146 (C k) k vs σ
 is: ∀ k vs σ,C (k+1) 153 vs σ=t153 (C k) k vs σ
 fail: ∀ k vs σ,C (k+1) 154 vs σ=t154 (C k) k vs σ
 binary: ∀ k,1<=k->∀ t lv τ,C k 147 [BJ.enc t,.int .i64 lv] τ=some (.int .i64 (bop t lv),τ)
 bop: ∀ t lv,bop t lv=0\/t.kind=4
section
variable {C:Nat->SS.Call} {bop:BZ->Int->Int} {q:Nat} {toks:List BZ}
theorem Ka (hC:Fj C bop) {τ:St} {a:Nat} {x:V} {out:List Ao} {bad:Int} {b:Nat} (h:Rd τ q toks a x out bad b) (ha:a<toks.length) (s:B) {k:Nat} (hk:1<=k) :
 C k 153 [.ptr q 0 0,.str s] τ=some (.bool (decide (toks[a].kind=4)&&decide (toks[a].text=s)),τ):=by
 obtain ⟨k,rfl⟩: ∃ k',k=k'+1:=⟨k - 1,by omega⟩
 rw [hC.is,kS h ha]
theorem Ov (hC:Fj C bop) {τ:St} {a:Nat} {x:V} {out:List Ao} {b:Nat} (h:Rd τ q toks a x out (-1) b) {k:Nat} (hk:1<=k) :
 C k 154 [.ptr q 0 0] τ=some (.tup [],τ.put q (.blk [(AA BJ).enc toks,.int .i64 (a:Int),x,.int .i64 (a:Int)] 177 0 false)):=by
 obtain ⟨k,rfl⟩: ∃ k',k=k'+1:=⟨k - 1,by omega⟩
 rw [hC.fail,aS h]
theorem mD (hC:Fj C bop) (hT:DM toks) (n:Int) (hn:1<=n/\n<=5) (a0 l0:Nat)
 (hin: ∀ a τ x out b,a0<a->a<toks.length->Rd τ q toks a x out (-1) b->out.length<=a->Dw out->∃ K τ',(∀ k,K<=k->C k 123 [.ptr q 0 0,.int .i64 (n+1)] τ=some (.tup [],τ'))/\EK τ' q toks a out.length) :
 ∀ r a τ x out bad b,toks.length - a<=r->a<toks.length->Rd τ q toks a x out bad b->(bad=-1\/(0<=bad/\bad<toks.length))->(bad=-1->a0<a)->a0<=a->out.length<=a->out.length+a0<=l0+a->Dw out ->
  ∃ K e τ',(∀ k j,K<=k->K<=j->Ai (t123_0 (C k) k) j [.ptr q 0 0,.int .i64 n] τ=some (e,[],τ'))/\(e=.exit 0\/e=.ret)/\EK τ' q toks a0 l0:=by
 intro r
 induction r with
 | zero=>intro a τ x out bad b h1 h2;omega
 | succ r ih =>
  intro a τ x out bad b hr ha hR hbad hba ha0 hol hgr hso;have hlen:=hT.len;have hblk:=hR.blk;rcases hbad with rfl | ⟨hb0,hb1⟩
  ·have hb:=λk hk=>hC.binary k hk toks[a] n τ
   rcases hC.bop toks[a] n with h0 | h4
   ·refine ⟨1,.ret,τ,λk j hk hj=>?_,.inr rfl,a,x,out,-1,b,hR,ha0,ha,.inl rfl,hgr,hso,hba⟩;obtain ⟨j,rfl⟩: ∃ j',j=j'+1:=⟨j - 1,by omega⟩
    have hbk:=hb k hk;rw [Eo];unfold t123_0;simp (disch:=try exact dD _) only [↓reduceIte,↓rK,rP,hblk,hbk,h0]
   ·by_cases h0:bop toks[a] n=0
    ·refine ⟨1,.ret,τ,λk j hk hj=>?_,.inr rfl,a,x,out,-1,b,hR,ha0,ha,.inl rfl,hgr,hso,hba⟩;obtain ⟨j,rfl⟩: ∃ j',j=j'+1:=⟨j - 1,by omega⟩
     have hbk:=hb k hk;rw [Eo];unfold t123_0;simp (disch:=try exact dD _) only [↓reduceIte,↓rK,rP,hblk,hbk,h0]
    ·have ha1:a+1<toks.length:=hT.ends a ha (by omega);have hR1:=hR.set (a+1) (-1);obtain ⟨K1,τ2,hc,a2,x2,out2,bad2,b2,hR2,h1,h2,h3,h4',h5,h6⟩:=hin (a+1) _ x out b (by have:=hba rfl;omega) ha1 hR1 (by omega) hso;obtain ⟨x3,b3,σ3,hap,hx1,hq3,hn3,hR3⟩:=hR2.push (by omega) ⟨bop toks[a] n,0,[],[]⟩;have hblk2:=hR2.blk;have hx2:=hR2.lst.one;have hsm:=h5.app ⟨bop toks[a] n,0,[],[]⟩ (by simp) (by simp);have hstep: ∀ k,K1+1<=k->t123_0 (C k) k [.ptr q 0 0,.int .i64 n] τ=some (if n=3 then .ret else .norm,if n=3 then [] else [.ptr q 0 0,.int .i64 n],σ3.put q (.blk [(AA BJ).enc toks,.int .i64 (a2:Int),x3,.int .i64 bad2] 177 0 false)):=by
      intro k hk;have hbk:=hb k (by omega);have hck:=hc k (by omega);have e1:((a:Int)+1)=((a+1:Nat):Int):=by omega
      unfold t123_0;simp (disch:=try exact dD _) only [↓reduceIte,↓rK,rP,Nat.reduceAdd,hblk,hbk,h0,e1,hck,hblk2,hap,hx2,hq3,↓BA,BA];by_cases hnn:n=3
      ·simp [hnn]
      ·simp [hnn]
     have hl3:(out2++[(⟨bop toks[a] n,0,[],[]⟩:Ao)]).length=out2.length+1:=by simp
     by_cases hnn:n=3
     ·refine ⟨K1+1,.ret,_,λk j hk hj=>?_,.inr rfl,a2,x3,_,bad2,b3,hR3,by omega,h2,h3,by omega,hsm,λhb=>by have:=h6 hb;omega⟩;obtain ⟨j,rfl⟩: ∃ j',j=j'+1:=⟨j - 1,by omega⟩
      rw [Eo,hstep k hk,if_pos hnn,if_pos hnn];rfl
     ·obtain ⟨K2,e,τ',hl,he,hw⟩:=ih a2 _ x3 _ bad2 b3 (by omega) h2 hR3 h3 (λhb=>by have:=h6 hb;omega) (by omega) (by omega) (by omega) hsm;refine ⟨K1+K2+1,e,τ',λk j hk hj=>?_,he,hw⟩;obtain ⟨j,rfl⟩: ∃ j',j=j'+1:=⟨j - 1,by omega⟩
      rw [Eo,hstep k (by omega),if_neg hnn,if_neg hnn];exact hl k j (by omega) (by omega)
  ·refine ⟨1,.exit 0,τ,λk j hk hj=>?_,.inl rfl,a,x,out,bad,b,hR,ha0,ha,.inr ⟨hb0,hb1⟩,hgr,hso,λh=>by omega⟩;obtain ⟨j,rfl⟩: ∃ j',j=j'+1:=⟨j - 1,by omega⟩
   rw [Eo];unfold t123_0;simp (disch:=try exact dD _) only [↓reduceIte,↓rK,rP,hblk]
end
theorem LG {R:Type} {a b c d:V} (ha:a.one=true) (hb:b.one=true) (hc:c.one=true) (hd:d.one=true) (K:List V->Option R):agN 4 (.agg [a,b,c,d]) K=K [a,b,c,d]:=by
 have e: ∀ v:V,v.one=true->V.isOne v=true:=λv h=>by rw [V.zAh];exact h
 unfold agN;show gd (Nat.beq (BN [a,b,c,d]) 4) (gd (Ey V.isOne [a,b,c,d]) (K [a,b,c,d]))=_;have h1:BN [a,b,c,d]=4:=by rw [CB];rfl
 rw [h1];have h2:Ey V.isOne [a,b,c,d]=true:=by
  unfold Ey;simp only [e a ha,e b hb,e c hc,e d hd]
 rw [h2];rfl
section
variable {C:Nat->SS.Call} {bop:BZ->Int->Int} {q:Nat} {toks:List BZ}
set_option maxHeartbeats 8000000 in
theorem wS (hC:Fj C bop) (hT:DM toks) {τ:St} {a:Nat} {x:V} {out:List Ao} {b:Nat} (hR:Rd τ q toks a x out (-1) b) (ha:a<toks.length) (hol:out.length<=a) (_:Dw out) (h4:toks[a].kind=4) (hs:toks[a].text=[33]\/toks[a].text=[45])
 (hin: ∀ τ,Rd τ q toks (a+1) x out (-1) b->∃ K τ',(∀ k,K<=k->C k 146 [.ptr q 0 0] τ=some (.tup [],τ'))/\EK τ' q toks (a+1) out.length) :
 ∃ K τ',(∀ k,K<=k->C k 146 [.ptr q 0 0] τ=some (.tup [],τ'))/\EK τ' q toks a out.length:=by
 have hlen:=hT.len;have hblk:=hR.blk;have ha1:a+1<toks.length:=hT.ends a ha (by omega);obtain ⟨K1,τ2,hc,a2,x2,out2,bad2,b2,hR2,h1,h2,h3,h4',h5,h6⟩:=hin _ (hR.set (a+1) (-1));have hblk2:=hR2.blk;have hx2:=hR2.lst.one;have e1:((a:Int)+1)=((a+1:Nat):Int):=by omega
 have main: ∀ op:Int,op≠0->∃ σ',(∀ k,K1+1<=k->t146_1 (C k) k [.ptr q 0 0,.int .i64 op] τ=some (.ret,[],σ'))/\EK σ' q toks a out.length:=by
  intro op hop;obtain ⟨x3,b3,σ3,hap,hx1,hq3,hn3,hR3⟩:=hR2.push (by omega) ⟨op,0,[],[]⟩;have hsm:=h5.app ⟨op,0,[],[]⟩ (by simp) (by simp);have hl3:(out2++[(⟨op,0,[],[]⟩:Ao)]).length=out2.length+1:=by simp
  refine ⟨_,λk hk=>?_,a2,x3,_,bad2,b3,hR3,by omega,h2,h3,by omega,hsm,λhb=>by have:=h6 hb;omega⟩;have hck:=hc k (by omega);unfold t146_1;simp (disch:=try exact dD _) only [↓reduceIte,↓rK,rP,Nat.reduceAdd,hblk,hop,e1,hck,hblk2,hap,hx2,hq3,↓BA,BA]
 have hi:=λ(s:B) (k:Nat) (hk:1<=k)=>Ka hC hR ha s hk
 by_cases h33:toks[a].text=[33]
 ·obtain ⟨σ',hm,hw⟩:=main 4 (by decide);refine ⟨K1+2,σ',λk hk=>?_,hw⟩;obtain ⟨k,rfl⟩: ∃ k',k=k'+1:=⟨k - 1,by omega⟩
  have hik:=λs=>hi s k (by omega)
  have hmk:=hm k (by omega);rw [hC.unary];unfold t146;simp (disch:=try exact dD _) only [↓reduceIte,↓rK,rP,AL,hblk,hik,h4,h33,hmk]
 ·obtain ⟨σ',hm,hw⟩:=main 5 (by decide);refine ⟨K1+2,σ',λk hk=>?_,hw⟩;obtain ⟨k,rfl⟩: ∃ k',k=k'+1:=⟨k - 1,by omega⟩
  have hik:=λs=>hi s k (by omega)
  have hmk:=hm k (by omega);have h45:toks[a].text=[45]:=hs.resolve_left h33;have hne:¬(([45]:B)=[33]):=by decide
  rw [hC.unary];unfold t146;simp (disch:=try exact dD _) only [↓reduceIte,↓rK,rP,AL,hblk,hik,h4,h45,hne,hmk]
theorem Qd (hC:Fj C bop) {τ τ':St} {a:Nat} {x:V} {out:List Ao} {b:Nat} (hR:Rd τ q toks a x out (-1) b) (ha:a<toks.length) (hs:¬(toks[a].kind=4/\(toks[a].text=[33]\/toks[a].text=[45]))) {K:Nat}
 (h: ∀ k,K<=k->t146_1 (C k) k [.ptr q 0 0,.int .i64 0] τ=some (.ret,[],τ')) {k:Nat} (hk:K+2<=k):C k 146 [.ptr q 0 0] τ=some (.tup [],τ'):=by
 obtain ⟨k,rfl⟩: ∃ k',k=k'+1:=⟨k - 1,by omega⟩
 have hblk:=hR.blk;have hik:=λ(s:B)=>Ka hC hR ha s (k:=k) (by omega)
 have hmk:=h k (by omega);have e1:(decide (toks[a].kind=4)&&decide (toks[a].text=[33]))=false:=by
  rw [Bool.and_eq_false_iff,decide_eq_false_iff_not,decide_eq_false_iff_not];by_cases h4:toks[a].kind=4
  ·exact .inr λh=>hs ⟨h4,.inl h⟩
  ·exact .inl h4
 have e2:(decide (toks[a].kind=4)&&decide (toks[a].text=[45]))=false:=by
  rw [Bool.and_eq_false_iff,decide_eq_false_iff_not,decide_eq_false_iff_not];by_cases h4:toks[a].kind=4
  ·exact .inr λh=>hs ⟨h4,.inr h⟩
  ·exact .inl h4
 rw [hC.unary];unfold t146;have hneg:decide ((0:Int)<=-1)=false:=rfl;simp (disch:=try exact dD _) only [↓reduceIte,↓rK,rO,AL,hblk,hik,e1,e2,hmk,hneg]
theorem FU:(env.P.info? 146).map (·.size)=some 4:=by kernel_rfl
set_option maxHeartbeats 8000000 in
theorem wQ (hT:DM toks) {τ:St} {a:Nat} {x:V} {out:List Ao} {b:Nat} (hR:Rd τ q toks a x out (-1) b) (ha:a<toks.length) (hol:out.length<=a) (hso:Dw out) (h1:toks[a].kind=1) :
 ∃ τ',(∀ k,t146_1 (C k) k [.ptr q 0 0,.int .i64 0] τ=some (.ret,[],τ'))/\EK τ' q toks a out.length:=by
 have hlen:=hT.len;have hblk:=hR.blk;have hlt:=hR.lt;have ha1:a+1<toks.length:=hT.ends a ha (by omega)
 obtain ⟨b1,hR1⟩:=hR.new (σ':=(τ.new (.blk [.int .i64 0,.str [],.int .i64 0,.int .i64 0] 146 0 false)).put τ.n (.blk [.int .i64 toks[a].kind,.str toks[a].text,.int .i64 toks[a].n,.int .i64 toks[a].at_] 146 0 false))
  (λc hc=>by rw [St.zAg,if_neg (by omega),St.zAe,if_neg (by omega)]) (by rw [A9,Aa];omega)
 have hR2:=hR1.set (a+1) (-1);obtain ⟨x3,b3,σ3,hap,hx1,hq3,hn3,hR3⟩:=hR2.push (by omega) ⟨1,toks[a].n,[],[]⟩;have hx:=hR.lst.one;have hsm:=hso.app ⟨1,toks[a].n,[],[]⟩ (by simp) (by simp);have hl3:(out++[(⟨1,toks[a].n,[],[]⟩:Ao)]).length=out.length+1:=by simp
 refine ⟨_,λk=>?_,a+1,x3,_,-1,b3,hR3,by omega,ha1,.inl rfl,by omega,hsm,λ_=>by omega⟩;have e1:((a:Int)+1)=((a+1:Nat):Int):=by omega
 unfold t146_1;simp (disch:=try exact dD _) only [↓reduceIte,↓rK,rP,Nat.reduceAdd,hblk,Ay FU,e1,hx];simp only [h1] at hap ⊢;simp (disch:=try exact dD _) only [rP,Nat.reduceAdd,hap,hq3]
end
section
variable {C:Nat->SS.Call} {bop:BZ->Int->Int} {q:Nat} {toks:List BZ}
theorem QX {τ:St} {a:Nat} {x:V} {out:List Ao} {b:Nat} (hR:Rd τ q toks a x out (-1) b) (A B:AO): ∃ b',Rd ((τ.new A).put τ.n B) q toks a x out (-1) b' :=
 hR.new (λc hc=>by rw [St.zAg,if_neg (by omega),St.zAe,if_neg (by omega)]) (by rw [A9,Aa];omega)
theorem Rd.mod {τ:St} {a:Nat} {x:V} {out:List Ao} {bad:Int} {b:Nat} (h:Rd τ q toks a x out bad b) {σ':St} {a':Nat} {bad':Int} (hg: ∀ c,c<τ.n->c≠q->σ'.get c=τ.get c) (hn:τ.n<=σ'.n)
 (hq:σ'.get q=some (.blk [(AA BJ).enc toks,.int .i64 (a':Int),x,.int .i64 bad'] 177 0 false)): ∃ b',Rd σ' q toks a' x out bad' b':=by
 have hlt:=h.lt;obtain ⟨b1,hL,hb1⟩:=EI 3 h.lst;have hne:=h.ne;exact ⟨b1,hq,by omega,hL.of (λhc=>hg b1 hc (by omega)) hn,by omega⟩
set_option maxHeartbeats 8000000 in
theorem wR (hC:Fj C bop) (hT:DM toks) {τ:St} {a:Nat} {x:V} {out:List Ao} {b:Nat} (hR:Rd τ q toks a x out (-1) b) (ha:a<toks.length) (_:out.length<=a) (hso:Dw out) (h1:toks[a].kind≠1) (h2:toks[a].kind≠2)
 (hin: ∀ τ b,a+1<toks.length->Rd τ q toks (a+1) x out (-1) b->∃ K τ',(∀ k,K<=k->C k 123 [.ptr q 0 0,.int .i64 1] τ=some (.tup [],τ'))/\EK τ' q toks (a+1) out.length) :
 ∃ K τ',(∀ k,K<=k->t146_1 (C k) k [.ptr q 0 0,.int .i64 0] τ=some (.ret,[],τ'))/\EK τ' q toks a out.length:=by
 have hlen:=hT.len;have hblk:=hR.blk;have hlt:=hR.lt;obtain ⟨b1,hR1⟩:=QX hR (.blk [.int .i64 0,.str [],.int .i64 0,.int .i64 0] 146 0 false) (.blk [.int .i64 toks[a].kind,.str toks[a].text,.int .i64 toks[a].n,.int .i64 toks[a].at_] 146 0 false);have hblk1:=hR1.blk;have hi:=λ(s:B) (k:Nat) (hk:1<=k)=>Ka hC hR1 ha s hk
 cases h40:(decide (toks[a].kind=4)&&decide (toks[a].text=[40])) with
 | true =>
  have h4:toks[a].kind=4:=of_decide_eq_true ((Bool.and_eq_true _ _).mp h40).1;have ha1:a+1<toks.length:=hT.ends a ha (by omega);have e1:((a:Int)+1)=((a+1:Nat):Int):=by omega
  obtain ⟨K1,τ2,hc,a2,x2,out2,bad2,b2,hR2,g1,g2,g3,g4,g5,g6⟩:=hin _ _ ha1 (hR1.set (a+1) (-1));have hblk2:=hR2.blk;rcases g3 with rfl | ⟨hb0,hb1⟩
  ·have hi2:=λ(s:B) (k:Nat) (hk:1<=k)=>Ka hC hR2 g2 s hk
   cases h41:(decide (toks[a2].kind=4)&&decide (toks[a2].text=[41])) with
   | true =>
    have h4:toks[a2].kind=4:=of_decide_eq_true ((Bool.and_eq_true _ _).mp h41).1;have ha2:a2+1<toks.length:=hT.ends a2 g2 (by omega);refine ⟨K1+1,_,λk hk=>?_,a2+1,x2,out2,-1,b2,hR2.set (a2+1) (-1),by omega,ha2,.inl rfl,by omega,g5,λ_=>by omega⟩;have hik:=λs=>hi s k (by omega)
    have hik2:=λs=>hi2 s k (by omega)
    have hck:=hc k (by omega);have e2:((a2:Int)+1)=((a2+1:Nat):Int):=by omega
    have hneg:decide ((0:Int)<=-1)=false:=rfl;unfold t146_1;simp (disch:=try exact dD _) only [↓reduceIte,↓rK,rO,Nat.reduceAdd,hblk,Ay FU,h1,h2,hik,h40,hblk1,e1,hck,hblk2,hneg,hik2,h41,e2]
   | false =>
    have hf:=λ(k:Nat) (hk:1<=k)=>Ov hC hR2 hk
    refine ⟨K1+1,_,λk hk=>?_,a2,x2,out2,(a2:Int),b2,hR2.set a2 (a2:Int),by omega,g2,.inr ⟨by omega,by omega⟩,by omega,g5,λhh=>by omega⟩;have hik:=λs=>hi s k (by omega)
    have hik2:=λs=>hi2 s k (by omega)
    have hck:=hc k (by omega);have hfk:=hf k (by omega);have hneg:decide ((0:Int)<=-1)=false:=rfl;unfold t146_1;simp (disch:=try exact dD _) only [↓reduceIte,↓rK,rO,Nat.reduceAdd,hblk,Ay FU,h1,h2,hik,h40,hblk1,e1,hck,hblk2,hneg,hik2,h41,hfk]
  ·refine ⟨K1+1,τ2,λk hk=>?_,a2,x2,out2,bad2,b2,hR2,by omega,g2,.inr ⟨hb0,hb1⟩,by omega,g5,λhh=>by omega⟩;have hik:=λs=>hi s k (by omega)
   have hck:=hc k (by omega);have hpos:decide (0<=bad2)=true:=decide_eq_true hb0;unfold t146_1;simp (disch:=try exact dD _) only [↓reduceIte,↓rK,rO,Nat.reduceAdd,hblk,Ay FU,h1,h2,hik,h40,hblk1,e1,hck,hblk2,hpos]
 | false =>
  have hf:=λ(k:Nat) (hk:1<=k)=>Ov hC hR1 hk
  refine ⟨1,_,λk hk=>?_,a,x,out,(a:Int),b1,hR1.set a (a:Int),by omega,ha,.inr ⟨by omega,by omega⟩,by omega,hso,λhh=>by omega⟩;have hik:=λs=>hi s k (by omega)
  have hfk:=hf k (by omega);unfold t146_1;simp (disch:=try exact dD _) only [↓reduceIte,↓rK,rO,hblk,Ay FU,h1,h2,hik,h40,hfk]
set_option maxHeartbeats 8000000 in
theorem wT (hC:Fj C bop) (hT:DM toks) {τ:St} {a:Nat} {x:V} {out:List Ao} {b:Nat} (hR:Rd τ q toks a x out (-1) b) (ha:a<toks.length) (hol:out.length<=a) (hso:Dw out) (h2:toks[a].kind=2) :
 ∃ K τ',(∀ k,K<=k->t146_1 (C k) k [.ptr q 0 0,.int .i64 0] τ=some (.ret,[],τ'))/\EK τ' q toks a out.length:=by
 have hlen:=hT.len;have hblk:=hR.blk;have hlt:=hR.lt;have hw:=hT.small _ (List.getElem_mem ha);have ha1:a+1<toks.length:=hT.ends a ha (by omega);have e1:((a:Int)+1)=((a+1:Nat):Int):=by omega
 obtain ⟨b1,hR1⟩:=QX hR (.blk [.int .i64 0,.str [],.int .i64 0,.int .i64 0] 146 0 false) (.blk [.int .i64 2,.str toks[a].text,.int .i64 toks[a].n,.int .i64 toks[a].at_] 146 0 false);have hR2:=hR1.set (a+1) (-1);obtain ⟨b3,hR3⟩:=QX hR2 (.blk [.int .i64 0,.int .i64 0,.str [],.str []] 122 0 false) (.blk [.int .i64 2,.int .i64 0,.str toks[a].text,.str []] 122 0 false);simp only [A9,Aa] at hR3;have hblk3:=hR3.blk;have hi:=λ(s:B) (k:Nat) (hk:1<=k)=>Ka hC hR3 ha1 s hk
 cases h64:(decide (toks[a+1].kind=4)&&decide (toks[a+1].text=[64])) with
 | true =>
  have h4:toks[a+1].kind=4:=of_decide_eq_true ((Bool.and_eq_true _ _).mp h64).1;have htx:toks[a+1].text=[64]:=of_decide_eq_true ((Bool.and_eq_true _ _).mp h64).2;have ha2:a+1+1<toks.length:=hT.ends (a+1) ha1 (by rw [h4];decide);have hw2:=hT.small _ (List.getElem_mem ha2);have e2:(((a+1:Nat):Int)+1)=((a+1+1:Nat):Int):=by omega
  have hR4:=hR3.set (a+1+1) (-1);by_cases hk2:toks[a+1+1].kind=2
  ·have ha3:a+1+1+1<toks.length:=hT.ends _ ha2 (by rw [hk2];decide);have e3:(((a+1+1:Nat):Int)+1)=((a+1+1+1:Nat):Int):=by omega
   obtain ⟨b5,hR5⟩:=hR.mod (a':=a+1+1+1) (bad':=-1) (σ':=((((((((τ.new (.blk [.int .i64 0,.str [],.int .i64 0,.int .i64 0] 146 0 false)).put τ.n (.blk [.int .i64 2,.str toks[a].text,.int .i64 toks[a].n,.int .i64 toks[a].at_] 146 0 false)).put q (.blk [(AA BJ).enc toks,.int .i64 ((a+1:Nat):Int),x,.int .i64 (-1)] 177 0 false)).new (.blk [.int .i64 0,.int .i64 0,.str [],.str []] 122 0 false)).put (τ.n+1) (.blk [.int .i64 2,.int .i64 0,.str toks[a].text,.str []] 122 0 false)).put q (.blk [(AA BJ).enc toks,.int .i64 ((a+1+1:Nat):Int),x,.int .i64 (-1)] 177 0 false)).put (τ.n+1) (.blk [.int .i64 3,.int .i64 0,.str toks[a].text,.str []] 122 0 false)).put (τ.n+1) (.blk [.int .i64 3,.int .i64 0,.str toks[a].text,.str toks[a+1+1].text] 122 0 false)).put q (.blk [(AA BJ).enc toks,.int .i64 ((a+1+1+1:Nat):Int),x,.int .i64 (-1)] 177 0 false))
    (λc hc hcq=>by simp (disch:=omega) only [St.zAg,St.zAe,A9,Aa,if_neg]) (by simp only [A9,Aa];omega) (by rw [St.zAg,if_pos rfl])
   obtain ⟨x4,b4,σ4,hap,hx1,hq4,hn4,hR6⟩:=hR5.push (by omega) ⟨3,0,toks[a].text,toks[a+1+1].text⟩;have hx:=hR.lst.one;have hsm:=hso.app ⟨3,0,toks[a].text,toks[a+1+1].text⟩ hw hw2;have hl3:(out++[(⟨3,0,toks[a].text,toks[a+1+1].text⟩:Ao)]).length=out.length+1:=by simp
   refine ⟨1,_,λk hk=>?_,a+1+1+1,x4,_,-1,b4,hR6,by omega,ha3,.inl rfl,by omega,hsm,λ_=>by omega⟩;have hik:=λs=>hi s k (by omega)
   unfold t146_1;simp (disch:=try exact dD _) only [↓reduceIte,↓rK,rP,Nat.reduceAdd,hblk,Ay FU,Ay Cv,h2,e1,hik,htx,hblk3,e2,hk2,e3];unfold t146_0;simp (disch:=try exact dD _) only [↓reduceIte,↓rK,rP,Nat.reduceAdd,hx,hap,hq4,LG]
  ·have hf:=λ(k:Nat) (hk:1<=k)=>Ov hC hR4 hk
   refine ⟨1,_,λk hk=>?_,a+1+1,x,out,((a+1+1:Nat):Int),b3,hR4.set (a+1+1) ((a+1+1:Nat):Int),by omega,ha2,.inr ⟨by omega,by omega⟩,by omega,hso,λhh=>by omega⟩;have hik:=λs=>hi s k (by omega)
   have hfk:=hf k (by omega);unfold t146_1;simp (disch:=try exact dD _) only [↓reduceIte,↓rK,rP,Nat.reduceAdd,hblk,Ay FU,Ay Cv,h2,e1,hik,htx,hblk3,e2,hk2,hfk]
 | false =>
  obtain ⟨x4,b4,σ4,hap,hx1,hq4,hn4,hR4⟩:=hR3.push (by omega) ⟨2,0,toks[a].text,[]⟩;have hx:=hR.lst.one;have hsm:=hso.app ⟨2,0,toks[a].text,[]⟩ hw (by simp);have hl3:(out++[(⟨2,0,toks[a].text,[]⟩:Ao)]).length=out.length+1:=by simp
  refine ⟨1,_,λk hk=>?_,a+1,x4,_,-1,b4,hR4,by omega,ha1,.inl rfl,by omega,hsm,λ_=>by omega⟩;have hik:=λs=>hi s k (by omega)
  unfold t146_1;simp (disch:=try exact dD _) only [↓reduceIte,↓rK,rP,Nat.reduceAdd,hblk,Ay FU,Ay Cv,h2,e1,hik,h64];unfold t146_0;simp (disch:=try exact dD _) only [↓reduceIte,↓rK,rP,Nat.reduceAdd,hblk3,hx,hap,hq4,LG]
end
section
variable {C:Nat->SS.Call} {bop:BZ->Int->Int} {q:Nat} {toks:List BZ}
theorem qQ (hC:Fj C bop) (hT:DM toks): ∀ M:Nat,
 (∀ a τ x out b,a<toks.length->(toks.length - a)*10<=M->Rd τ q toks a x out (-1) b->out.length<=a->Dw out->∃ K τ',(∀ k,K<=k->C k 146 [.ptr q 0 0] τ=some (.tup [],τ'))/\EK τ' q toks a out.length) /\
 (∀ (n:Nat) a τ x out b,1<=n->n<=6->a<toks.length->(toks.length - a)*10+(7 - n)<=M->Rd τ q toks a x out (-1) b->out.length<=a->Dw out->∃ K τ',(∀ k,K<=k->C k 123 [.ptr q 0 0,.int .i64 (n:Int)] τ=some (.tup [],τ'))/\EK τ' q toks a out.length):=by
 intro M
 induction M using Nat.strongRecOn with
 | _ M ih =>
  refine ⟨λa τ x out b ha hM hR hol hso=>?_,λn a τ x out b hn1 hn6 ha hM hR hol hso=>?_⟩
  ·by_cases hs:toks[a].kind=4/\(toks[a].text=[33]\/toks[a].text=[45])
   ·have ha1:a+1<toks.length:=hT.ends a ha (by rw [hs.1];decide);exact wS hC hT hR ha hol hso hs.1 hs.2 λτ hR1=>(ih ((toks.length - (a+1))*10) (by omega)).1 (a+1) τ x out b ha1 (Nat.le_refl _) hR1 (by omega) hso
   ·by_cases h1:toks[a].kind=1
    ·obtain ⟨τ',hu,hw⟩:=wQ (C:=C) hT hR ha hol hso h1;exact ⟨0+2,τ',λk hk=>Qd hC hR ha hs (K:=0) (λk _=>hu k) hk,hw⟩
    ·by_cases h2:toks[a].kind=2
     ·obtain ⟨K,τ',hu,hw⟩:=wT hC hT hR ha hol hso h2;exact ⟨K+2,τ',λk hk=>Qd hC hR ha hs hu hk,hw⟩
     ·obtain ⟨K,τ',hu,hw⟩:=wR hC hT hR ha hol hso h1 h2 λτ b ha1 hR1=>(ih ((toks.length - (a+1))*10+6) (by omega)).2 1 (a+1) τ x out b (by omega) (by omega) ha1 (by omega) hR1 (by omega) hso
      exact ⟨K+2,τ',λk hk=>Qd hC hR ha hs hu hk,hw⟩
  ·by_cases h6:n=6
   ·subst h6;obtain ⟨K,τ',hu,hw⟩:=(ih ((toks.length - a)*10) (by omega)).1 a τ x out b ha (Nat.le_refl _) hR hol hso;refine ⟨K+1,τ',λk hk=>?_,hw⟩;obtain ⟨k,rfl⟩: ∃ k',k=k'+1:=⟨k - 1,by omega⟩
    have huk:=hu k (by omega);rw [hC.level];unfold t123;have h56:((5:Int)<((6:Nat):Int)):=by omega
    simp (disch:=try exact dD _) only [↓reduceIte,↓rK,rP,AL,h56,huk]
   ·obtain ⟨K1,τ1,hl1,a1,x1,out1,bad1,b1,hR1,g1,g2,g3,g4,g5,g6⟩:=(ih ((toks.length - a)*10+(7 - (n+1))) (by omega)).2 (n+1) a τ x out b (by omega) (by omega) ha (Nat.le_refl _) hR hol hso
    obtain ⟨K2,e,τ2,hl2,he,hw⟩:=mD hC hT (n:Int) ⟨by omega,by omega⟩ a out.length
     (λa' τ' x' out' b' ha' hlt hR' hol' hso'=>(ih ((toks.length - a')*10+(7 - (n+1))) (by omega)).2 (n+1) a' τ' x' out' b' (by omega) (by omega) hlt (Nat.le_refl _) hR' hol' hso')
     (toks.length - a1) a1 τ1 x1 out1 bad1 b1 (Nat.le_refl _) g2 hR1 g3 g6 g1 (by omega) g4 g5
    refine ⟨K1+K2+1,τ2,λk hk=>?_,hw⟩;obtain ⟨k,rfl⟩: ∃ k',k=k'+1:=⟨k - 1,by omega⟩
    have hl1k:=hl1 k (by omega);have hl2k:=hl2 k k (by omega) (by omega);rw [hC.level];unfold t123;have h56:¬((5:Int)<(n:Int)):=by omega
    have e1:((n:Int)+1)=((n+1:Nat):Int):=by omega
    rcases he with rfl | rfl
    ·simp (disch:=try exact dD _) only [↓reduceIte,↓rK,rP,h56,e1,hl1k,hl2k];unfold t123_1;simp (disch:=try exact dD _) only [↓rK,rP,AL]
    ·simp (disch:=try exact dD _) only [↓reduceIte,↓rK,rP,AL,h56,e1,hl1k,hl2k]
theorem vG (hC:Fj C bop) (hT:DM toks) (a:Nat) (ha:a<toks.length) :
 ∃ K v σ,(∀ k,K<=k->t99 (C k) k [(AA BJ).enc toks,.int .i64 (a:Int)] .empty=some (v,σ)) /\
  ((∃ (x:V) (out:List Ao) (a' b:Nat),v=.tup [x,.int .i64 (a':Int),.int .i64 0]/\Lst σ 122 4 x out.length (rows Al out) b/\a'<toks.length/\out.length<=30/\Dw out) \/
   (∃ (a':Nat) (e:Int),v=.tup [.nilS,.int .i64 (a':Int),.int .i64 e]/\(e=2\/e=13)/\a'<toks.length)):=by
 have hR0:Rd (St.empty.new (.blk [(AA BJ).enc toks,.int .i64 (a:Int),.nilS,.int .i64 (-1)] 177 0 false)) 0 toks a .nilS [] (-1) 1 :=
  ⟨rfl,by rw [Aa];omega,C5 _ _ _ _,by decide⟩
 obtain ⟨K,τ',hl,a',x,out,bad,b,hR,g1,g2,g3,g4,g5,g6⟩:=(qQ hC hT _).2 1 a _ .nilS [] 1 (by omega) (by omega) ha (Nat.le_refl _) hR0 (by simp) (by intro t ht;simp at ht);rw [show ((1:Nat):Int)=1 from rfl] at hl;have hblk:=hR.blk;have hone:=hR.lst.one;have hcell:V.cellsF (V.agg [(AA BJ).enc toks,.int .i64 (a:Int),V.nilS,.int .i64 (-1)])=[(AA BJ).enc toks,.int .i64 (a:Int),V.nilS,.int .i64 (-1)]:=by rw [V.zAb];rfl
 have hneg:(Int.negSucc 0)=-1:=rfl;have a1:=λK=>hR.lst.len (R:=AEx×List V×St) K
 rcases g3 with rfl | ⟨hb0,hb1⟩
 ·by_cases h30:(30:Int)<(out.length:Int)
  ·refine ⟨K,_,τ',λk hk=>?_,.inr ⟨a,13,rfl,.inr rfl,ha⟩⟩;have hlk:=hl k hk;unfold t99;simp (disch:=try exact dD _) only [↓rK,rP,↓BA,BA,hneg,hcell];simp (disch:=try exact dD _) only [↓reduceIte,↓rK,rP,AL,hlk,hblk,a1,h30,hone]
  ·refine ⟨K,_,τ',λk hk=>?_,.inl ⟨x,out,a',b,rfl,hR.lst,g2,by omega,g5⟩⟩;have hlk:=hl k hk;unfold t99;simp (disch:=try exact dD _) only [↓rK,rP,↓BA,BA,hneg,hcell];simp (disch:=try exact dD _) only [↓reduceIte,↓rK,rP,AL,hlk,hblk,a1,h30,hone]
 ·obtain ⟨c,rfl⟩: ∃ c:Nat,bad=(c:Int):=⟨bad.toNat,by omega⟩
  refine ⟨K,_,τ',λk hk=>?_,.inr ⟨c,2,rfl,.inl rfl,by omega⟩⟩;have hlk:=hl k hk;unfold t99;simp (disch:=try exact dD _) only [↓rK,rP,↓BA,BA,hneg,hcell];simp (disch:=try exact dD _) only [↓reduceIte,↓rK,rP,AL,hlk,hblk]
end
end Go.Proofs.YtglndmmlghpdpaaGreatDoor
namespace Go.Proofs.YtglndmmlghpdpaaGreatDoor
open Go SS
set_option maxRecDepth 100000
set_option maxHeartbeats 4000000 in
theorem mF {call:SS.Call} (h1: ∀ c τ,call 54 [.int .u8 c] τ=some (.bool (B6 c),τ)) {k:Nat} (s:B) (hs:s.length<=60000) (hk:s.length<k) (a p:Nat) (ha:a<s.length) (hd:B6 (by8 s[a])=true) (x:V) (τ:St)
 (hp:τ.get p=some (.blk [.int .i64 1,.str [],.int .i64 0,.int .i64 (a:Int)] 146 0 false)) :
 ∃ n N σ,Ai (t98_1 call k) k [.str s,x,.int .i64 (a:Int),.int .i64 0,.ptr p 0 0] τ=some (.exit 3,[.str s,x,.int .i64 (a:Int),.int .i64 ((n:Nat):Int),.ptr p 0 0],σ)/\1<=n/\a+n<=s.length /\
  σ.get p=some (.blk [.int .i64 1,.str [],.int .i64 N,.int .i64 (a:Int)] 146 0 false)/\(∀ c,c≠p->σ.get c=τ.get c)/\σ.n=τ.n:=by
 obtain ⟨e,vs',σ,g1,_,g2⟩:=Bl (P:=t98_1 call k) (Inv:=λr vs σ=>∃ (n:Nat) (N:Int),r+(a+n)=s.length/\vs=[.str s,x,.int .i64 (a:Int),.int .i64 (n:Int),.ptr p 0 0]/\σ.get p=some (.blk [.int .i64 1,.str [],.int .i64 N,.int .i64 (a:Int)] 146 0 false)/\(∀ c,c≠p->σ.get c=τ.get c)/\σ.n=τ.n/\0<=N/\N<=999/\(n=0->N<=0)/\(n=1->N<=9)/\(n=2->N<=99))
  (Q:=λy=>y.1=.exit 3/\∃ (n:Nat) (N:Int),y.2.1=[.str s,x,.int .i64 (a:Int),.int .i64 (n:Int),.ptr p 0 0]/\1<=n/\a+n<=s.length/\y.2.2.get p=some (.blk [.int .i64 1,.str [],.int .i64 N,.int .i64 (a:Int)] 146 0 false)/\(∀ c,c≠p->y.2.2.get c=τ.get c)/\y.2.2.n=τ.n)
  (by
    rintro r vs σ ⟨n,N,hr,rfl,hg,hfr,hn,hN0,hN9,hb0,hb1,hb2⟩
    have e1:((a:Int)+(n:Int))=((a+n:Nat):Int):=by omega
    generalize hw:t98_1 call k [.str s,x,.int .i64 (a:Int),.int .i64 (n:Int),.ptr p 0 0] σ=w;unfold t98_1 t98_0 at hw;by_cases hi:a+n<s.length
    ·cases hdd:B6 (by8 s[a+n]) with
     | true =>
      have hd':=hdd;unfold B6 at hd';simp only [Bool.and_eq_true,decide_eq_true_eq] at hd';by_cases h3:n<3
      ·simp (disch:=try exact dD _) only [↓reduceIte,↓rK,rP,Nat.reduceAdd,e1,h1,hdd,hg] at hw;exact .inl ⟨r - 1,_,_,by omega,hw.symm,n+1,10*N+(by8 s[a+n] - 48),by omega,rfl,by rw [St.zAg,if_pos rfl],λc hc=>by rw [St.zAg,if_neg hc];exact hfr c hc,hn,by omega,by omega,by omega,by omega,by omega⟩
      ·simp (disch:=try exact dD _) only [↓reduceIte,↓rK,rP,e1,h1,hdd] at hw;exact .inl ⟨r - 1,_,_,by omega,hw.symm,n+1,N,by omega,rfl,hg,hfr,hn,hN0,hN9,by omega,by omega,by omega⟩
     | false =>
      simp (disch:=try exact dD _) only [↓reduceIte,↓rK,rP,e1,h1,hdd] at hw;refine .inr ⟨_,_,_,hw.symm,(by intro h;cases h),rfl,n,N,rfl,?_,by omega,hg,hfr,hn⟩;rcases Nat.eq_zero_or_pos n with h0 | h0
      ·subst h0;simp only [Nat.add_zero] at hdd;rw [hd] at hdd;cases hdd
      ·exact h0
    ·simp (disch:=try exact dD _) only [↓reduceIte,↓rK,rP,e1] at hw;exact .inr ⟨_,_,_,hw.symm,(by intro h;cases h),rfl,n,N,rfl,by omega,by omega,hg,hfr,hn⟩)
  (s.length - a) k [.str s,x,.int .i64 (a:Int),.int .i64 0,.ptr p 0 0] τ (by omega) ⟨0,0,by omega,rfl,hp,λ_ _=>rfl,rfl,by omega,by omega,by omega,by omega,by omega⟩
 obtain ⟨e1,n,N,e2,h2,h3,h4,h5,h6⟩:=g2;simp only at e1 e2 h4 h5 h6;subst e1 e2;exact ⟨n,N,σ,g1,h2,h3,h4,h5,h6⟩
set_option maxHeartbeats 4000000 in
theorem mI {call:SS.Call} (h1: ∀ c τ,call 54 [.int .u8 c] τ=some (.bool (B6 c),τ)) (h0: ∀ c τ,call 53 [.int .u8 c] τ=some (.bool (CY c),τ)) {k:Nat} (s:B) (hs:s.length<=60000) (hk:s.length<k) (a:Nat) (ha:a<s.length) (hd:CY (by8 s[a])=true) (x y:V) (τ:St) :
 ∃ n,Ai (t98_3 call k) k [.str s,x,.int .i64 (a:Int),.int .i64 0,y] τ=some (.exit 5,[.str s,x,.int .i64 (a:Int),.int .i64 ((n:Nat):Int),y],τ)/\1<=n/\a+n<=s.length:=by
 obtain ⟨e,vs',σ,g1,_,g2⟩:=Bl (P:=t98_3 call k) (Inv:=λr vs σ=>∃ (n:Nat),r+(a+n)=s.length/\vs=[.str s,x,.int .i64 (a:Int),.int .i64 (n:Int),y]/\σ=τ)
  (Q:=λz=>z.1=.exit 5/\z.2.2=τ/\∃ (n:Nat),z.2.1=[.str s,x,.int .i64 (a:Int),.int .i64 (n:Int),y]/\1<=n/\a+n<=s.length)
  (by
    rintro r vs σ ⟨n,hr,rfl,rfl⟩
    have e1:((a:Int)+(n:Int))=((a+n:Nat):Int):=by omega
    generalize hw:t98_3 call k [.str s,x,.int .i64 (a:Int),.int .i64 (n:Int),y] σ=w;unfold t98_3 at hw;by_cases hi:a+n<s.length
    ·cases hdd:(CY (by8 s[a+n])||B6 (by8 s[a+n])) with
     | true =>
      simp (disch:=try exact dD _) only [↓reduceIte,↓rK,rP,e1,h1,h0,hdd] at hw;exact .inl ⟨r - 1,_,_,by omega,hw.symm,n+1,by omega,rfl,rfl⟩
     | false =>
      simp (disch:=try exact dD _) only [↓reduceIte,↓rK,rP,e1,h1,h0,hdd] at hw;refine .inr ⟨_,_,_,hw.symm,(by intro h;cases h),rfl,rfl,n,rfl,?_,by omega⟩;rcases Nat.eq_zero_or_pos n with h0 | h0
      ·subst h0;simp only [Nat.add_zero,hd,Bool.true_or] at hdd;cases hdd
      ·exact h0
    ·simp (disch:=try exact dD _) only [↓reduceIte,↓rK,rP,e1] at hw;exact .inr ⟨_,_,_,hw.symm,(by intro h;cases h),rfl,rfl,n,rfl,by omega,by omega⟩)
  (s.length - a) k [.str s,x,.int .i64 (a:Int),.int .i64 0,y] τ (by omega) ⟨0,by omega,rfl,rfl⟩
 obtain ⟨e1,e3,n,e2,h2,h3⟩:=g2;simp only at e1 e2 e3;subst e1 e2 e3;exact ⟨n,g1,h2,h3⟩
end Go.Proofs.YtglndmmlghpdpaaGreatDoor
namespace Go.Proofs.YtglndmmlghpdpaaGreatDoor
open Go SS
set_option maxRecDepth 100000
def FF (toks:List BZ):Prop:=∀ t∈toks,t.kind≠5/\t.text.length<1000000
theorem FF.app {l:List BZ} (h:FF l) (t:BZ) (h1:t.kind≠5) (h2:t.text.length<1000000):FF (l++[t]):=by
 intro u hu;rcases List.mem_append.1 hu with hu | hu
 ·exact h u hu
 ·rw [List.mem_singleton.1 hu];exact ⟨h1,h2⟩
theorem mH {call:SS.Call} {k:Nat} (s:B) (hs:s.length<=60000) (a n p:Nat) (hn:1<=n) (han:a+n<=s.length) (kd N:Int) (hkd:kd≠5) (x:V) (σ:St) (toks:List BZ) (b:Nat) (hp:σ.get p=some (.blk [.int .i64 kd,.str [],.int .i64 N,.int .i64 (a:Int)] 146 0 false))
 (hL:Lst σ 146 4 x toks.length (rows BJ toks) b) (hbp:b≠p) (htl:toks.length<=a) (hok:FF toks) :
 ∃ x' b' σ' toks',t98_5 call k [.str s,x,.int .i64 (a:Int),.int .i64 (n:Int),.ptr p 0 0] σ=some (.norm,[.str s,x',.int .i64 ((a+n:Nat):Int)],σ')/\Lst σ' 146 4 x' toks'.length (rows BJ toks') b'/\toks'.length<=a+n/\FF toks':=by
 have hL2:=hL.of (σ':=σ.put p (.blk [.int .i64 kd,.str ((s.drop a).take (a+n - a)),.int .i64 N,.int .i64 (a:Int)] 146 0 false)) (λ_=>by rw [St.zAg,if_neg hbp]) (by rw [A9];exact Nat.le_refl _);obtain ⟨x',b',σ',ha,hL',_⟩:=DQ (new:=(BJ.enc ⟨kd,(s.drop a).take (a+n - a),N,(a:Int)⟩).cells) hL2 (by omega) rfl (by decide);refine ⟨x',b',σ',toks++[⟨kd,(s.drop a).take (a+n - a),N,(a:Int)⟩],?_,by rw [DI,List.length_append];exact hL',by simp;omega,hok.app _ hkd (by simp;omega)⟩;have ha': ∀ {R:Type} (K:V->St->Option R),BQ 146 4 1 [.int .i64 kd,.str ((s.drop a).take (a+n - a)),.int .i64 N,.int .i64 (a:Int)] x (σ.put p (.blk [.int .i64 kd,.str ((s.drop a).take (a+n - a)),.int .i64 N,.int .i64 (a:Int)] 146 0 false)) K=K x' σ':=λK=>ha K
 have e1:((a:Int)+(n:Int))=((a+n:Nat):Int):=by omega
 unfold t98_5;simp (disch:=try exact dD _) only [↓reduceIte,↓rK,rP,Nat.reduceAdd,e1,hp,LG,ha']
set_option maxHeartbeats 16000000 in
theorem mE {call:SS.Call} (h1: ∀ c τ,call 54 [.int .u8 c] τ=some (.bool (B6 c),τ)) (h0: ∀ c τ,call 53 [.int .u8 c] τ=some (.bool (CY c),τ))
 (sg:B->B) (hsg: ∀ s τ,1<=s.length->s.length<1000000->call 122 [.str s] τ=some (.str (sg s),τ)) (hsl: ∀ s,1<=s.length->s.length<1000000->(sg s).length<=s.length)
 {k:Nat} (s:B) (hs:s.length<=60000) (hk:s.length<k) (a:Nat) (ha:a<s.length) (x:V) (τ:St) (toks:List BZ) (b:Nat) (hL:Lst τ 146 4 x toks.length (rows BJ toks) b) (htl:toks.length<=a) (hok:FF toks) :
 (∃ x' b' σ' toks' a',t98_7 call k [.str s,x,.int .i64 (a:Int)] τ=some (.norm,[.str s,x',.int .i64 ((a':Nat):Int)],σ')/\a<a'/\a'<=s.length/\Lst σ' 146 4 x' toks'.length (rows BJ toks') b'/\toks'.length<=a'/\FF toks') \/
 (∃ σ',t98_7 call k [.str s,x,.int .i64 (a:Int)] τ=some (.ret,[.nilS,.int .i64 2,.int .i64 (a:Int)],σ')):=by
 obtain ⟨b1,hL1,hb1⟩:=EI 3 hL;have mkS: ∀ (kd N:Int),∃ σ,σ=((τ.new (.blk [.int .i64 0,.str [],.int .i64 0,.int .i64 0] 146 0 false)).put τ.n (.blk [.int .i64 0,.str [],.int .i64 0,.int .i64 (a:Int)] 146 0 false)).put τ.n (.blk [.int .i64 kd,.str [],.int .i64 N,.int .i64 (a:Int)] 146 0 false)/\σ.get τ.n=some (.blk [.int .i64 kd,.str [],.int .i64 N,.int .i64 (a:Int)] 146 0 false)/\Lst σ 146 4 x toks.length (rows BJ toks) b1:=by
  intro kd N;refine ⟨_,rfl,by rw [St.zAg,if_pos rfl],hL1.of (λhc=>?_) (by simp only [A9,Aa];omega)⟩;simp (disch:=omega) only [St.zAg,St.zAe,if_neg]
 have hbp:b1≠τ.n:=by omega
 generalize hw:t98_7 call k [.str s,x,.int .i64 (a:Int)] τ=w;unfold t98_7 at hw;by_cases hbl:(by8 s[a]=32\/by8 s[a]=9)\/by8 s[a]=10
 ·have hbl':((decide (by8 s[a]=32)||decide (by8 s[a]=9))||decide (by8 s[a]=10))=true:=by simpa using hbl
  simp (disch:=try exact dD _) only [↓reduceIte,↓rK,rP,Ay FU,hbl',↓BA,BA] at hw;unfold t98_6 at hw;simp (disch:=try exact dD _) only [↓rK] at hw;have e1:((a:Int)+1)=((a+1:Nat):Int):=by omega
  rw [e1] at hw;refine .inl ⟨x,b1,_,toks,a+1,hw.symm,by omega,by omega,hL1.of (λhc=>?_) (by simp only [A9,Aa];omega),by omega,hok⟩;simp (disch:=omega) only [St.zAg,St.zAe,if_neg]
 ·have hbl':((decide (by8 s[a]=32)||decide (by8 s[a]=9))||decide (by8 s[a]=10))=false:=by simpa using hbl
  simp (disch:=try exact dD _) only [↓reduceIte,↓rK,rP,Nat.reduceAdd,Ay FU,↓BA,BA,h0,h1] at hw
  have fin: ∀ (n:Nat) (kd N:Int) (σ:St) (tl:Res),1<=n->a+n<=s.length->kd≠5->σ.get τ.n=some (.blk [.int .i64 kd,.str [],.int .i64 N,.int .i64 (a:Int)] 146 0 false)->Lst σ 146 4 x toks.length (rows BJ toks) b1 ->
   Aw 1 (t98_5 call k [.str s,x,.int .i64 (a:Int),.int .i64 (n:Int),.ptr τ.n 0 0] σ) (t98_6 call k)=w ->
   (∃ x' b' σ' toks' a',w=some (.norm,[.str s,x',.int .i64 ((a':Nat):Int)],σ')/\a<a'/\a'<=s.length/\Lst σ' 146 4 x' toks'.length (rows BJ toks') b'/\toks'.length<=a'/\FF toks') \/
   (∃ σ',w=some (.ret,[.nilS,.int .i64 2,.int .i64 (a:Int)],σ')):=by
   intro n kd N σ _ hn1 han hkd hp hL hw;obtain ⟨x',b',σ',toks',ht,hL',htl',hok'⟩:=mH (call:=call) (k:=k) s hs a n τ.n hn1 han kd N hkd x σ toks b1 hp hL hbp htl hok;rw [ht] at hw;unfold t98_6 at hw;simp (disch:=try exact dD _) only [↓rK] at hw;exact .inl ⟨x',b',σ',toks',a+n,hw.symm,by omega,han,hL',htl',hok'⟩
  cases hd:B6 (by8 s[a]) with
  | true =>
   obtain ⟨σ1,e1,hp1,hL2⟩:=mkS 1 0;obtain ⟨n,N,σ2,g1,g2,g3,g4,g5,g6⟩:=mF h1 s hs hk a τ.n ha hd x σ1 hp1;simp (disch:=try exact dD _) only [↓reduceIte,rP,hd,<-e1,g1] at hw;unfold t98_2 at hw;by_cases h3:(3:Int)<(n:Int)
   ·simp (disch:=try exact dD _) only [↓reduceIte,↓rK,rP,h3] at hw;exact .inr ⟨_,hw.symm⟩
   ·simp (disch:=try exact dD _) only [↓reduceIte,↓rK,rP,h3] at hw;exact fin n 1 N σ2 none g2 g3 (by decide) g4 (hL2.of (λhc=>g5 _ hbp) (by omega)) hw
  | false =>
   cases hl:CY (by8 s[a]) with
   | true =>
    obtain ⟨σ1,e1,hp1,hL2⟩:=mkS 2 0;obtain ⟨n,g1,g2,g3⟩:=mI h1 h0 s hs hk a ha hl x (.ptr τ.n 0 0) σ1;simp (disch:=try exact dD _) only [↓reduceIte,rP,hd,hl,<-e1,g1] at hw;unfold t98_4 at hw;by_cases h8:(8:Int)<(n:Int)
    ·simp (disch:=try exact dD _) only [↓reduceIte,↓rK,rP,h8] at hw;exact .inr ⟨_,hw.symm⟩
    ·simp (disch:=try exact dD _) only [↓reduceIte,↓rK,rP,h8] at hw;exact fin n 2 0 σ1 none g2 g3 (by decide) hp1 hL2 hw
   | false =>
    simp (disch:=try exact dD _) only [↓reduceIte,rP,hd,hl] at hw;split at hw
    ·obtain ⟨σ1,e1,hp1,hL2⟩:=mkS 3 0;simp (disch:=try exact dD _) only [↓rK,<-e1] at hw;exact fin 1 3 0 σ1 none (by omega) (by omega) (by decide) hp1 hL2 hw
    ·obtain ⟨σ1,e1,hp1,hL2⟩:=mkS 4 0;have hdl:(s.drop a).length=s.length - a:=List.length_drop;have hs1:=λτ=>hsg (s.drop a) τ (by omega) (by omega)
     have hs2:=hsl (s.drop a) (by omega) (by omega);simp (disch:=try exact dD _) only [↓rK,rP,hs1,<-e1] at hw;by_cases hz:((sg (s.drop a)).length:Int)=0
     ·simp (disch:=try exact dD _) only [↓reduceIte,rP,hz] at hw;exact .inr ⟨_,hw.symm⟩
     ·simp (disch:=try exact dD _) only [↓reduceIte,rP,hz] at hw;exact fin (sg (s.drop a)).length 4 0 σ1 none (by omega) (by omega) (by decide) hp1 hL2 hw
theorem vW {toks:List BZ} (h:FF toks) (hl:toks.length<=60000) (a:Int):DM (toks++[⟨5,[],0,a⟩]):=by
 refine ⟨by simp;omega,λi hi hk=>?_,λt ht=>?_⟩
 ·by_cases he:i<toks.length
  ·simp;omega
  ·have:i=toks.length:=by simp at hi;omega
   subst this;simp at hk
 ·rcases List.mem_append.1 ht with ht | ht
  ·exact (h t ht).2
  ·rw [List.mem_singleton.1 ht];simp
theorem mG {call:SS.Call} (h1: ∀ c τ,call 54 [.int .u8 c] τ=some (.bool (B6 c),τ)) (h0: ∀ c τ,call 53 [.int .u8 c] τ=some (.bool (CY c),τ))
 (sg:B->B) (hsg: ∀ s τ,1<=s.length->s.length<1000000->call 122 [.str s] τ=some (.str (sg s),τ)) (hsl: ∀ s,1<=s.length->s.length<1000000->(sg s).length<=s.length)
 {k:Nat} (s:B) (hk:60001<k) :
 ∃ v σ,t98 call k [.str s] .empty=some (v,σ) /\
  ((∃ x toks b,v=.tup [x,.int .i64 0,.int .i64 0]/\Lst σ 146 4 x toks.length (rows BJ toks) b/\DM toks/\1<=toks.length)\/(∃ (e a:Int),v=.tup [.nilS,.int .i64 e,.int .i64 a]/\(e=2\/e=14)/\0<=a/\a<=60000)):=by
 generalize hw:t98 call k [.str s] .empty=w;unfold t98 at hw;by_cases hlong:(60000:Int)<(s.length:Int)
 ·simp (disch:=try exact dD _) only [↓reduceIte,↓rK,rP,AL,hlong] at hw;exact ⟨_,_,hw.symm,.inr ⟨14,0,rfl,.inr rfl,by omega,by omega⟩⟩
 ·have hs:s.length<=60000:=by omega
  obtain ⟨e,vs',τ,g1,_,g2⟩:=Bl (P:=t98_7 call k) (Inv:=λr vs τ=>∃ (a:Nat) (x:V) (toks:List BZ) (b:Nat),r+a=s.length/\vs=[.str s,x,.int .i64 (a:Int)]/\Lst τ 146 4 x toks.length (rows BJ toks) b/\toks.length<=a/\FF toks)
   (Q:=λy=>(y.1=.exit 0/\∃ (x:V) (toks:List BZ) (b:Nat),y.2.1=[x,.int .i64 (s.length:Int)]/\Lst y.2.2 146 4 x toks.length (rows BJ toks) b/\toks.length<=s.length/\FF toks)\/(y.1=.ret/\∃ a:Nat,y.2.1=[.nilS,.int .i64 2,.int .i64 (a:Int)]/\a<=s.length))
   (by
     rintro r vs τ ⟨a,x,toks,b,hr,rfl,hL,htl,hok⟩
     by_cases ha:a<s.length
     ·rcases mE (call:=call) (k:=k) h1 h0 sg hsg hsl s hs (by omega) a ha x τ toks b hL htl hok with ⟨x',b',σ',toks',a',hb,haa,hal,hL',htl',hok'⟩ | ⟨σ',hb⟩
      ·exact .inl ⟨r - (a' - a),_,σ',by omega,hb,a',x',toks',b',by omega,rfl,hL',htl',hok'⟩
      ·exact .inr ⟨_,_,_,hb,(by intro h;cases h),.inr ⟨rfl,a,rfl,by omega⟩⟩
     ·have he:a=s.length:=by omega
      subst he;refine .inr ⟨.exit 0,[x,.int .i64 (s.length:Int)],τ,?_,(by intro h;cases h),.inl ⟨rfl,x,toks,b,rfl,hL,htl,hok⟩⟩;unfold t98_7;simp (disch:=try exact dD _) only [↓reduceIte,↓rK,rP])
   s.length k [.str s,.nilS,.int .i64 0] .empty (by omega) ⟨0,.nilS,[],0,by omega,rfl,C5 _ _ _ _,by simp,by intro t ht;simp at ht⟩
  simp (disch:=try exact dD _) only [↓reduceIte,↓rK,rP,hlong,g1] at hw;rcases g2 with ⟨e1,x,toks,b,e2,hL,htl,hok⟩ | ⟨e1,a,e2,hal⟩
  ·simp only at e1 e2 hL;subst e1 e2;obtain ⟨x',b',σ',ha,hL',_⟩:=DQ (new:=[.int .i64 5,.str [],.int .i64 0,.int .i64 (s.length:Int)]) hL (by omega) rfl (by decide);unfold t98_8 at hw;simp (disch:=try exact dD _) only [↓rK,rP,AL,↓BA,BA,ha] at hw;refine ⟨_,_,hw.symm,.inl ⟨x',toks++[⟨5,[],0,(s.length:Int)⟩],b',rfl,?_,vW hok (by omega) _,by simp⟩⟩;rw [DI,List.length_append];exact hL'
  ·simp only at e1 e2;subst e1 e2;simp (disch:=try exact dD _) only [↓rK,rP,AL] at hw;exact ⟨_,_,hw.symm,.inr ⟨2,(a:Int),rfl,.inl rfl,by omega,by omega⟩⟩
inductive Gp
 | toks (l:List BZ)
 | none (e a:Int)
def D9:Gp->V
 | .toks l=>.tup [(AA BJ).enc l,.int .i64 0,.int .i64 0]
 | .none e a=>.tup [.emp,.int .i64 e,.int .i64 a]
inductive Gs
 | terms (l:List Ao) (a:Nat)
 | none (a:Nat) (e:Int)
def Ec:Gs->V
 | .terms l a=>.tup [(AA Al).enc l,.int .i64 (a:Int),.int .i64 0]
 | .none a e=>.tup [.emp,.int .i64 (a:Int),.int .i64 e]
def KD:Gp->Prop
 | .toks l=>DM l/\1<=l.length
 | .none e a=>(e=2\/e=14)/\0<=a/\a<=60000
def KG (l:List BZ):Gs->Prop
 | .terms t a=>a<l.length/\t.length<=30/\Dw t
 | .none a e=>(e=2\/e=13)/\a<l.length
theorem pI {call:SS.Call} (lx:B->Gp) (hlx: ∀ s,KD (lx s)) (h1: ∀ s τ,call 98 [.str s] τ=some (D9 (lx s),τ))
 (tk:List BZ->Nat->Gs) (htk: ∀ l a,DM l->a<l.length->KG l (tk l a)) (h2: ∀ l (a:Nat) τ,DM l->a<l.length->call 99 [(AA BJ).enc l,.int .i64 (a:Int)] τ=some (Ec (tk l a),τ)) {k:Nat} (s:B) (τ:St) :
 ∃ v,t70 call k [.str s] τ=some (v,τ)/\((∃ l:List Ao,v=.tup [(AA Al).enc l,.int .i64 0,.int .i64 0]/\l.length<=30/\Dw l)\/(∃ e a:Int,v=.tup [.nilS,.int .i64 e,.int .i64 a]/\e≠0)):=by
 generalize hw:t70 call k [.str s] τ=w;unfold t70 at hw;have hl:=hlx s;cases hs:lx s with
 | none e a =>
  rw [hs] at hl;have hne:¬e=0:=by rcases hl.1 with h | h<;>omega
  have h1':=h1 s τ;rw [hs] at h1';simp (disch:=try exact dD _) only [↓reduceIte,↓rK,rP,AL,h1',D9,hne] at hw;exact ⟨_,hw.symm,.inr ⟨e,a,rfl,hne⟩⟩
 | toks l =>
  rw [hs] at hl;have h1':=h1 s τ;rw [hs] at h1';have h2':=h2 l 0 τ hl.1 hl.2;have ht:=htk l 0 hl.1 hl.2;rw [show ((0:Nat):Int)=0 from rfl] at h2';cases hk:tk l 0 with
  | none a e =>
   rw [hk] at h2' ht;have hne:¬e=0:=by rcases ht.1 with h | h<;>omega
   have ha:=ht.2;simp (disch:=try exact dD _) only [↓reduceIte,↓rK,rP,AL,h1',D9,h2',Ec,hne] at hw;exact ⟨_,hw.symm,.inr ⟨e,_,rfl,hne⟩⟩
  | terms t a =>
   rw [hk] at h2' ht;obtain ⟨ha,ht1,ht2⟩:=ht;by_cases h5:l[a].kind=5
   ·simp (disch:=try exact dD _) only [↓reduceIte,↓rK,rP,AL,h1',D9,h2',Ec,h5] at hw;exact ⟨_,hw.symm,.inl ⟨t,rfl,ht1,ht2⟩⟩
   ·simp (disch:=try exact dD _) only [↓reduceIte,↓rK,rP,AL,h1',D9,h2',Ec,h5] at hw;exact ⟨_,hw.symm,.inr ⟨2,_,rfl,by decide⟩⟩
def JQ (pr:List Ao->B) (e:Eff):B:=[32,59,32]++e.name++[32,61,32]++pr e.to
def EH (pr:List Ao->B) (l:List Eff):B:=l.flatMap (JQ pr)
theorem SX {pr:List Ao->B} (hp: ∀ l,(pr l).length<=100000) (l:List Eff) (hs: ∀ e∈l,e.name.length<1000000):(EH pr l).length<=l.length*2000000:=by
 induction l with
 | nil=>simp [EH]
 | cons e r ih =>
  have h1:=ih λe he=>hs e (by simp [he])
  have h2:=hs e (by simp);have h3:=hp e.to;have:EH pr (e :: r)=JQ pr e++EH pr r:=by simp [EH]
  rw [this,List.length_append];have h4:(JQ pr e).length=e.name.length+(pr e.to).length+6:=by simp [JQ];omega
  rw [h4];simp only [List.length_cons];omega
theorem qA {call:SS.Call} (pr:List Ao->B) (hpr: ∀ l τ,Ci l->call 101 [(AA Al).enc l] τ=some (.str (pr l),τ)) (hp: ∀ l,(pr l).length<=100000) {k:Nat} (l:List Eff) (hs:GQ l) (hk:l.length<k) (τ:St) :
 t102 call k [(AA Bg).enc l] τ=some (.str (EH pr l),τ):=by
 have hlen:=hs.1
 obtain ⟨e,vs',σ,g1,_,g2⟩:=Bl (P:=t102_0 call k) (Inv:=λr vs σ=>∃ i:Nat,r+i=l.length/\vs=[(AA Bg).enc l,.str (EH pr (l.take i)),.int .i64 (i:Int)]/\σ=τ)
  (Q:=λy=>y=(.exit 0,[.str (EH pr l)],τ))
  (by
    rintro r vs σ ⟨i,hr,rfl,rfl⟩
    generalize hw:t102_0 call k [(AA Bg).enc l,.str (EH pr (l.take i)),.int .i64 (i:Int)] σ=w;unfold t102_0 at hw;by_cases hi:i<l.length
    ·obtain ⟨w1,w2⟩:=hs.2 _ (List.getElem_mem hi);have h3:=hp l[i].to;have h4:=SX hp (l.take i) λe he=>(hs.2 e (List.mem_of_mem_take he)).1
     have h5:(l.take i).length=i:=by rw [List.length_take];omega
     rw [h5] at h4;simp (disch:=try exact dD _) only [↓reduceIte,↓rK,rP,hpr] at hw;refine .inl ⟨r - 1,_,_,by omega,hw.symm,i+1,by omega,?_,rfl⟩;have ht:EH pr (l.take (i+1))=EH pr (l.take i)++JQ pr l[i]:=by
      rw [List.take_succ_eq_append_getElem hi];unfold EH;rw [List.flatMap_append];simp
     rw [ht];simp [JQ]
    ·have he:i=l.length:=by omega
     subst he;rw [List.take_length] at hw;simp (disch:=try exact dD _) only [↓reduceIte,↓rK,rP] at hw;exact .inr ⟨_,_,_,hw.symm,(by intro h;cases h),rfl⟩)
  l.length k [(AA Bg).enc l,.str [],.int .i64 0] τ hk ⟨0,by omega,by simp [EH],rfl⟩
 unfold t102;simp only [Gn,EQ,g1,g2];unfold t102_1;simp (disch:=try exact dD _) only [↓rK,rP,AL]
def I4 (t:Br):Bool:=decide (1<=t.id)&&(decide (t.id<=999)&&(Eb t.sync&&(isWord t.proc&&(isWord t.from_&&(isWord t.to&&(Cl t.guard&&KP t.effs))))))
def K9 (pr:List Ao->B) (t:Br):B:=BK t.id++[32]++t.proc++[32]++t.from_++[32]++t.to++[32]++(if t.sync=[] then [45] else t.sync)++[32]++pr t.guard++EH pr t.effs
theorem qC {call:SS.Call} (pr:List Ao->B) (hpr: ∀ l τ,Ci l->call 101 [(AA Al).enc l] τ=some (.str (pr l),τ)) (hp: ∀ l,(pr l).length<=100000)
 (h1: ∀ (s:B) τ,s.length<1000000->call 29 [.str s] τ=some (.bool (isWord s),τ)) (h2: ∀ (s:B) τ,s.length<1000000->call 56 [.str s] τ=some (.tup [.str s.dropLast,.bool (Eb s)],τ)) (h3: ∀ (c:Int) τ,call 57 [.int .i64 c] τ=some (.bool (decide (1<=c)&&decide (c<=999)),τ))
 (h4: ∀ (l:List Ao) τ,Ci l->call 77 [(AA Al).enc l] τ=some (.bool (Cl l),τ)) (h5: ∀ (l:List Eff) τ,GQ l->call 100 [(AA Bg).enc l] τ=some (.bool (KP l),τ))
 (h6: ∀ (n:Int) τ,-1000000<=n->n<=1000000->call 66 [.int .i64 n] τ=some (.str (BK n),τ)) (h7: ∀ (l:List Eff) τ,GQ l->call 102 [(AA Bg).enc l] τ=some (.str (EH pr l),τ))
 (h8: ∀ n:Int,1<=n->n<=999->(BK n).length<=1000) {k:Nat} (t:Br) (hs:Dl t) :
 ∃ σ,t72 call k [BF.enc t] .empty=some (.str (if I4 t then K9 pr t else []),σ):=by
 obtain ⟨s1,s2,s3,s4,s5,s6,s7⟩:=hs;have hX:GQ t.effs:=⟨s6,s7⟩
 generalize hw:t72 call k [BF.enc t] .empty=w;unfold t72 at hw;simp (disch:=try exact dD _) only [↓reduceIte,↓rK,rO,h1,h2,h3,h4,h5] at hw;cases hok:I4 t with
 | false =>
  rw [if_pos (by unfold I4 at hok;grind)] at hw;simp only [rO,AL] at hw;exact ⟨_,hw.symm⟩
 | true =>
  rw [if_neg (by unfold I4 at hok;grind)] at hw;have hid:1<=t.id/\t.id<=999:=by unfold I4 at hok;grind
  have b1:=h8 t.id hid.1 hid.2;have b2:=hp t.guard;have b3:=SX hp t.effs λe he=>(s7 e he).1
  by_cases hsy:t.sync=[]
  ·simp (disch:=try exact dD _) only [↓reduceIte,rP,hsy] at hw;unfold t72_0 at hw;simp (disch:=try exact dD _) only [↓reduceIte,↓rK,rP,AL,h6,h7,hpr] at hw;refine ⟨_,hw.symm.trans (congrArg (λb=>some (V.str b,_)) ?_)⟩;simp [K9,hsy]
  ·simp (disch:=try exact dD _) only [↓reduceIte,rP,hsy] at hw;unfold t72_0 at hw;simp (disch:=try exact dD _) only [↓reduceIte,↓rK,rP,AL,h6,h7,hpr] at hw;refine ⟨_,hw.symm.trans (congrArg (λb=>some (V.str b,_)) ?_)⟩;simp [K9,hsy]
theorem Vg {l:List Ao} (h1:l.length<=30) (h2:Dw l):Ci l:=⟨by omega,h2⟩
set_option maxHeartbeats 8000000 in
theorem o6 {call:SS.Call} (lx:B->Gp) (hlx: ∀ s,KD (lx s)) (h1: ∀ s τ,call 98 [.str s] τ=some (D9 (lx s),τ))
 (tk:List BZ->Nat->Gs) (htk: ∀ l a,DM l->a<l.length->KG l (tk l a)) (h2: ∀ l (a:Nat) τ,DM l->a<l.length->call 99 [(AA BJ).enc l,.int .i64 (a:Int)] τ=some (Ec (tk l a),τ)) {k:Nat} (l:List B) (hl:l.length<1000000) (hk:l.length<k) :
 ∃ v σ,t71 call k [(AA AC).enc l] .empty=some (v,σ)/\(v=.tup [.nilS,.bool false]\/∃ x effs b,v=.tup [x,.bool true]/\Lst σ 100 2 x effs.length (rows Bg effs) b/\GQ effs):=by
 obtain ⟨e,vs',σ,g1,_,g2⟩:=Bl (P:=t71_0 call k) (Inv:=λr vs σ=>∃ (i:Nat) (x:V) (effs:List Eff) (b:Nat),r+i=l.length/\vs=[(AA AC).enc l,x,.int .i64 (i:Int)]/\Lst σ 100 2 x effs.length (rows Bg effs) b/\effs.length<=i/\∀ f∈effs,f.name.length<1000000/\Ci f.to)
  (Q:=λy=>(y.1=.exit 0/\∃ (x:V) (effs:List Eff) (b:Nat),y.2.1=[x]/\Lst y.2.2 100 2 x effs.length (rows Bg effs) b/\effs.length<1000000/\∀ f∈effs,f.name.length<1000000/\Ci f.to)\/(y.1=.ret/\y.2.1=[.nilS,.bool false]))
  (by
    rintro r vs σ ⟨i,x,effs,b,hr,rfl,hL,hel,hsm⟩
    generalize hw:t71_0 call k [(AA AC).enc l,x,.int .i64 (i:Int)] σ=w;unfold t71_0 at hw;by_cases hi:i<l.length
    ·have h1':=h1 l[i] σ;have hok:=hlx l[i];cases hlex:lx l[i] with
     | none e a =>
      rw [hlex] at h1' hok;have hne:¬e=0:=by rcases hok.1 with h | h<;>omega
      simp (disch:=try exact dD _) only [↓reduceIte,↓rK,rP,h1',D9,hne] at hw;exact .inr ⟨_,_,_,hw.symm,(by intro h;cases h),.inr ⟨rfl,rfl⟩⟩
     | toks t =>
      rw [hlex] at h1' hok;by_cases ht3:(t.length:Int)<3
      ·simp (disch:=try exact dD _) only [↓reduceIte,↓rK,rP,h1',D9,ht3] at hw;exact .inr ⟨_,_,_,hw.symm,(by intro h;cases h),.inr ⟨rfl,rfl⟩⟩
      ·have hlen3:3<=t.length:=by omega
       have h2':=h2 t 2 σ hok.1 (by omega);have ht:=htk t 2 hok.1 (by omega);rw [show ((2:Nat):Int)=2 from rfl] at h2';have i0: ∀ K:V->Option (Bool×St),AZ 4 ((AA BJ).enc t) 0 0 σ K=K (.int .i64 t[0].kind):=λK=>NT (n:=0) (by omega) K
       have i1: ∀ K:V->Option (Bool×St),AZ 4 ((AA BJ).enc t) 1 0 σ K=K (.int .i64 t[1].kind):=λK=>NT (n:=1) (by omega) K
       have i2: ∀ K:V->Option (Bool×St),AZ 4 ((AA BJ).enc t) 1 1 σ K=K (.str t[1].text):=λK=>NU (n:=1) (by omega) K
       have i3: ∀ K:V->Option (AEx×List V×St),AZ 4 ((AA BJ).enc t) 0 1 σ K=K (.str t[0].text):=λK=>NU (n:=0) (by omega) K
       have hsmall0:=hok.1.small _ (List.getElem_mem (show 0<t.length by omega));cases hk2:tk t 2 with
       | none a e =>
        rw [hk2] at h2' ht;have hne:¬e=0:=by rcases ht.1 with h | h<;>omega
        have ha:=ht.2;simp (disch:=try exact dD _) only [↓reduceIte,↓rK,rP,h1',D9,ht3,i0,i1,i2,h2',Ec,hne] at hw;split at hw
        ·exact .inr ⟨_,_,_,hw.symm,(by intro h;cases h),.inr ⟨rfl,rfl⟩⟩
        ·exact .inr ⟨_,_,_,hw.symm,(by intro h;cases h),.inr ⟨rfl,rfl⟩⟩
       | terms tt a =>
        rw [hk2] at h2' ht;obtain ⟨ha,ht1,ht2⟩:=ht;obtain ⟨x',b',σ',hap,hL',_⟩:=DQ (new:=(Bg.enc ⟨t[0].text,tt⟩).cells) hL (by omega) rfl (by decide);have hap': ∀ {R:Type} (K:V->St->Option R),BQ 100 2 1 [.str t[0].text,(AA Al).enc tt] x σ K=K x' σ':=λK=>hap K
        simp (disch:=try exact dD _) only [↓reduceIte,↓rK,rP,h1',D9,ht3,i0,i1,i2,i3,h2',Ec,↓BA,BA,hap'] at hw;split at hw
        ·exact .inr ⟨_,_,_,hw.symm,(by intro h;cases h),.inr ⟨rfl,rfl⟩⟩
        ·split at hw
         ·exact .inr ⟨_,_,_,hw.symm,(by intro h;cases h),.inr ⟨rfl,rfl⟩⟩
         ·refine .inl ⟨r - 1,_,_,by omega,hw.symm,i+1,x',effs++[⟨t[0].text,tt⟩],b',by omega,rfl,by rw [DI,List.length_append];exact hL',by simp;omega,?_⟩;intro f hf;rcases List.mem_append.1 hf with hf | hf
          ·exact hsm f hf
          ·rw [List.mem_singleton.1 hf];exact ⟨hsmall0,Vg ht1 ht2⟩
    ·have he:i=l.length:=by omega
     subst he;simp (disch:=try exact dD _) only [↓reduceIte,↓rK,rP] at hw;exact .inr ⟨_,_,_,hw.symm,(by intro h;cases h),.inl ⟨rfl,x,effs,b,rfl,hL,by omega,hsm⟩⟩)
  l.length k [(AA AC).enc l,.nilS,.int .i64 0] .empty hk ⟨0,.nilS,[],0,by omega,rfl,C5 _ _ _ _,by simp,by intro f hf;simp at hf⟩
 generalize hw:t71 call k [(AA AC).enc l] .empty=w;unfold t71 at hw;simp only [Gn,EQ,g1] at hw;rcases g2 with ⟨e1,x,effs,b,e2,hL,hel,hsm⟩ | ⟨e1,e2⟩
 ·simp only at e1 e2 hL;subst e1 e2;unfold t71_1 at hw;simp (disch:=try exact dD _) only [↓rK,rP,AL] at hw;exact ⟨_,_,hw.symm,.inr ⟨x,effs,b,rfl,hL,hel,hsm⟩⟩
 ·simp only at e1 e2;subst e1 e2;simp (disch:=try exact dD _) only [↓rK,rP,AL] at hw;exact ⟨_,_,hw.symm,.inl rfl⟩
theorem QJ (l:List B) (h0:l≠[]) (n:Nat) (hn:n<=l.length) (σ:St):sliceAt env 37 ((AA AC).enc l) (some (.int .i64 (n:Int))) none none σ=some (.lst ((l.drop n).map V.str) false):=by
 have hu:env.P.underlying 37=some (.slice 9):=by kernel_rfl
 obtain ⟨i,hi,hs⟩:=Option.map_eq_some_iff.1 GJ;have hs:i.size=1:=hs
 match l,h0 with
 | a :: r,_ =>
  show sliceAt env _ (.lst (V.str a :: r.map V.str) false) _ none none σ=_;unfold sliceAt;simp only [hu];have hb:CL 0 (some (.int .i64 (n:Int)))=some n:=by rfl
  have hb2: ∀ m,CL m none=some m:=λ_=>rfl
  have hfs:GY env 9 (V.str a :: r.map V.str)=true:=by
   unfold GY;simp only [hi,hs];rfl
  have hl:(V.str a :: r.map V.str).length=r.length+1:=by simp
  simp only [hb,hb2,hfs,hl];have h1:Nat.ble n (r.length+1)=true:=Nat.ble_eq_true_of_le (by simpa using hn);have h2:Nat.ble (r.length+1) (r.length+1)=true:=Nat.ble_eq_true_of_le (Nat.le_refl _);rw [h1,h2];simp only [Bool.and_self,Option.isNone_none,Option.isSome_none,Bool.or_true,if_true];have h3:(List.drop n (V.str a :: r.map V.str)).take (r.length+1 - n)=((a :: r).drop n).map V.str:=by
   rw [show V.str a :: r.map V.str=(a :: r).map V.str from rfl,<-List.map_drop,List.take_of_length_le (by simp)]
  rw [h3];simp
theorem O7 (l:List B) (τ:St):Bd env τ [.lst (l.map V.str) false]=some [(AA AC).enc l]/\V.kind.kinds [V.lst (l.map V.str) false]<=1:=by
 match l with
 | []=>exact ⟨rfl,by decide⟩
 | a :: r =>
  have hz:=(AA AC).zero (a :: r);have hk:V.kind.kinds [(AA AC).enc (a :: r)]=0:=by rw [BM,hz];rfl
  exact ⟨G9 hk,by show V.kind.kinds [(AA AC).enc (a :: r)]<=1;omega⟩
theorem KL (c:UInt8): ∀ (s:B),∀ w∈cut c s,w.length<=s.length
 | [],w,hw=>by simp [cut] at hw;simp [hw]
 | d :: r,w,hw=>by
  have ih:=KL c r;rw [IU] at hw;split at hw
  ·rcases List.mem_cons.1 hw with rfl | hw
   ·simp
   ·have:=ih w hw;simp;omega
  ·split at hw
   ·rename_i h t e;rcases List.mem_cons.1 hw with rfl | hw
    ·have:=ih h (by rw [e];simp);simp;omega
    ·have:=ih w (by rw [e];simp [hw]);simp;omega
   ·simp at hw;rw [hw];simp
theorem WU (s:B): ∀ w∈BI s,w.length<=s.length:=λw hw=>KL 32 s w (List.mem_filter.1 hw).1
theorem Vf (s:B) (n:Nat):(Cb s n).length<=s.length:=by
 induction n generalizing s with
 | zero=>exact Nat.le_refl _
 | succ n ih =>
  have h1:=ih ((s.dropWhile (λc=>c==32)).dropWhile (λc=>!(c==32)));have h2:=KN (λc=>!(c==32)) (s.dropWhile (λc=>c==32));have h3:=KN (λc=>c==32) s;show (Cb _ n).length<=_;omega
inductive IE
 | terms (l:List Ao)
 | none (e a:Int)
def Gi:IE->V
 | .terms l=>.tup [(AA Al).enc l,.int .i64 0,.int .i64 0]
 | .none e a=>.tup [.emp,.int .i64 e,.int .i64 a]
def LX:IE->Prop
 | .terms l=>l.length<=30/\Dw l
 | .none e _=>e≠0
inductive IB
 | effs (l:List Eff)
 | none
def FX:IB->V
 | .effs l=>.tup [(AA Bg).enc l,.bool true]
 | .none=>.tup [.emp,.bool false]
def LV:IB->Prop
 | .effs l=>GQ l
 | .none=>True
theorem FV:(env.P.info? 70).map (·.size)=some 7:=by kernel_rfl
set_option maxHeartbeats 16000000 in
theorem o8 {call:SS.Call} (h1: ∀ (s:B) τ,s.length<999999->call 47 [.str s] τ=some ((AA AC).enc (BI s),τ)) (h2: ∀ (s:B) τ,s.length<1000000->call 37 [.str s,.bool false] τ=some (.tup [.int .i64 (CG s).1,.bool (CG s).2],τ))
 (h3: ∀ (s:B) τ,s.length<1000000->call 56 [.str s] τ=some (.tup [.str s.dropLast,.bool (Eb s)],τ)) (h4: ∀ (s:B) (n:Nat) τ,s.length<1000000->n<10->call 50 [.str s,.int .i64 (n:Int)] τ=some (.str (Cb s n),τ))
 (h5: ∀ (s:B) (c:UInt8) τ,s.length<1000000->call 10 [.str s,.int .u8 (by8 c)] τ=some ((AA AC).enc (cut c s),τ)) (pp:B->IE) (hpp: ∀ s,LX (pp s)) (h6: ∀ s τ,call 70 [.str s] τ=some (Gi (pp s),τ))
 (pe:List B->IB) (hpe: ∀ l,LV (pe l)) (h7: ∀ (l:List B) τ,l.length<1000000->call 71 [.lst (l.map V.str) false] τ=some (FX (pe l),τ))
 (pt:Br->B) (h8: ∀ a b c d e g f τ,Dl ⟨a,b,c,d,e,g,f⟩->call 72 [.agg [.int .i64 a,.str b,.str c,.str d,.str e,(AA Al).enc g,(AA Bg).enc f]] τ=some (.str (pt ⟨a,b,c,d,e,g,f⟩),τ)) {k:Nat} (s:B) (hs:s.length<900000) :
 ∃ v σ,t49 call k [.str s] .empty=some (v,σ)/\(v=.tup [.agg [.int .i64 0,.str [],.str [],.str [],.str [],.nilS,.nilS],.bool false]\/∃ t:Br,v=.tup [BF.enc t,.bool true]/\Dl t):=by
 generalize hw:t49 call k [.str s] .empty=w;unfold t49 at hw;have hwl:=WU s;by_cases h6w:((BI s).length:Int)<6
 ·simp (disch:=try exact dD _) only [↓reduceIte,↓rK,rP,AL,Nat.reduceAdd,h1,h6w,Ay FV] at hw;exact ⟨_,_,hw.symm,.inl rfl⟩
 ·have hlen:6<=(BI s).length:=by omega
  have i0: ∀ τ (K:V->Option (AEx×List V×St)),AZ 1 ((AA AC).enc (BI s)) 0 0 τ K=K (.str (BI s)[0]):=λτ K=>ER (n:=0) (by omega) K
  have i1: ∀ τ (K:V->Option (AEx×List V×St)),AZ 1 ((AA AC).enc (BI s)) 1 0 τ K=K (.str (BI s)[1]):=λτ K=>ER (n:=1) (by omega) K
  have i2: ∀ τ (K:V->Option (AEx×List V×St)),AZ 1 ((AA AC).enc (BI s)) 2 0 τ K=K (.str (BI s)[2]):=λτ K=>ER (n:=2) (by omega) K
  have i3: ∀ τ (K:V->Option (AEx×List V×St)),AZ 1 ((AA AC).enc (BI s)) 3 0 τ K=K (.str (BI s)[3]):=λτ K=>ER (n:=3) (by omega) K
  have i4: ∀ τ (K:V->Option (AEx×List V×St)),AZ 1 ((AA AC).enc (BI s)) 4 0 τ K=K (.str (BI s)[4]):=λτ K=>ER (n:=4) (by omega) K
  have l0:=hwl _ (List.getElem_mem (show 0<(BI s).length by omega));have l1:=hwl _ (List.getElem_mem (show 1<(BI s).length by omega));have l2:=hwl _ (List.getElem_mem (show 2<(BI s).length by omega));have l3:=hwl _ (List.getElem_mem (show 3<(BI s).length by omega));have l4:=hwl _ (List.getElem_mem (show 4<(BI s).length by omega));have hsk:=Vf s 5;have hne:=JN 59 (Cb s 5);have hcl:=GX 59 (Cb s 5);have hc1:1<=(cut 59 (Cb s 5)).length:=List.length_pos_iff.2 hne;have h4':=λτ=>h4 s 5 τ (by omega) (by omega)
  have h5':=λτ=>h5 (Cb s 5) 59 τ (by omega)
  have j0: ∀ τ (K:V->Option (AEx×List V×St)),AZ 1 ((AA AC).enc (cut 59 (Cb s 5))) 0 0 τ K=K (.str (cut 59 (Cb s 5))[0]):=λτ K=>ER (n:=0) (by omega) K
  have hsl:=λτ=>QJ (cut 59 (Cb s 5)) hne 1 hc1 τ
  have h7':=λτ=>h7 ((cut 59 (Cb s 5)).drop 1) τ (by rw [List.length_drop];omega)
  rw [show ((5:Nat):Int)=5 from rfl] at h4';rw [show by8 59=59 from rfl] at h5';rw [show ((1:Nat):Int)=1 from rfl] at hsl
  have rest: ∀ (sy:B) (hsy:sy.length<1000000) (ok:Bool) (σ:St),σ.get 0=some (.blk [.int .i64 0,.str [],.str [],.str [],.str [],.nilS,.nilS] 70 0 false)->σ.get 1=some (.blk [.int .i64 (CG (BI s)[0]).1,.str (BI s)[1],.str (BI s)[2],.str (BI s)[3],.str sy,.nilS,.nilS] 70 0 false) ->
   ∃ vs σ',t49_0 call k [.str s,.ptr 0 0 0,.bool ok,.ptr 1 0 0] σ=some (.ret,vs,σ')/\(vs=[.agg [.int .i64 0,.str [],.str [],.str [],.str [],.nilS,.nilS],.bool false]\/∃ t:Br,vs=[BF.enc t,.bool true]/\Dl t):=by
   intro sy hsy ok σ hg0 hg1;generalize hw:t49_0 call k [.str s,.ptr 0 0 0,.bool ok,.ptr 1 0 0] σ=w;unfold t49_0 at hw;have h6':=λτ=>h6 (cut 59 (Cb s 5))[0] τ
   have hpk:=hpp (cut 59 (Cb s 5))[0];have hek:=hpe ((cut 59 (Cb s 5)).drop 1);have hx1:(V.emp).one=true:=rfl;have st0: ∀ (σ':St) (v:V),σ'.get 0=some (.blk [.int .i64 0,.str [],.str [],.str [],.str [],.nilS,.nilS] 70 0 false)->v.cells.length=7->BO v.cells=true->storeAt env 70 (.ptr 0 0 0) v σ'=some (σ'.put 0 (.blk v.cells 70 0 false)):=λσ' v h hv ho=>Ef FV h rfl hv ho
   cases hp:pp (cut 59 (Cb s 5))[0] with
   | none e a =>
    rw [hp] at hpk;have hpk:¬e=0:=hpk;simp only [hp,Gi] at h6';cases he:pe ((cut 59 (Cb s 5)).drop 1) with
    | none =>
     simp only [he,FX] at h7';simp (disch:=first | omega | (simp (disch:=omega) only [St.zAg,if_neg,hg0,eq_self];done) | first | exact dD _ | assumption) only [↓reduceIte,↓rK,rP,Nat.reduceAdd,h4',h5',j0,h6',hsl,h7',↓BA,BA,hg1,hpk,st0] at hw;exact ⟨_,_,hw.symm,.inl rfl⟩
    | effs l =>
     simp only [he,FX] at h7';simp (disch:=first | omega | (simp (disch:=omega) only [St.zAg,if_neg,hg0,eq_self];done) | first | exact dD _ | assumption) only [↓reduceIte,↓rK,rP,Nat.reduceAdd,h4',h5',j0,h6',hsl,h7',↓BA,BA,hg1,hpk,st0] at hw;exact ⟨_,_,hw.symm,.inl rfl⟩
   | terms g =>
    rw [hp] at hpk;simp only [hp,Gi] at h6';cases he:pe ((cut 59 (Cb s 5)).drop 1) with
    | none =>
     simp only [he,FX] at h7';cases ok<;>(simp (disch:=first | omega | (simp (disch:=omega) only [St.zAg,if_neg,hg0,eq_self];done) | first | exact dD _ | assumption) only [↓reduceIte,↓rK,rP,Nat.reduceAdd,h4',h5',j0,h6',hsl,h7',↓BA,BA,hg1,st0] at hw;exact ⟨_,_,hw.symm,.inl rfl⟩)
    | effs l =>
     rw [he] at hek;simp only [he,FX] at h7';have hst:Dl ⟨(CG (BI s)[0]).1,(BI s)[1],(BI s)[2],(BI s)[3],sy,g,l⟩:=⟨by show (BI s)[1].length<_;omega,by show (BI s)[2].length<_;omega,by show (BI s)[3].length<_;omega,hsy,Vg hpk.1 hpk.2,hek⟩
     have h8':=λτ=>h8 _ _ _ _ _ _ _ τ hst
     cases ok
     ·simp (disch:=first | omega | (simp (disch:=omega) only [St.zAg,if_neg,hg0,eq_self];done) | first | exact dD _ | assumption) only [↓reduceIte,↓rK,rP,Nat.reduceAdd,h4',h5',j0,h6',hsl,h7',↓BA,BA,hg1,st0] at hw;exact ⟨_,_,hw.symm,.inl rfl⟩
     ·simp (disch:=first | omega | (simp (disch:=omega) only [St.zAg,if_neg,hg0,eq_self];done) | first | exact dD _ | assumption) only [↓reduceIte,↓rK,rP,Nat.reduceAdd,h4',h5',j0,h6',hsl,h7',↓BA,BA,hg1,st0,h8'] at hw;split at hw
      ·exact ⟨_,_,hw.symm,.inl rfl⟩
      ·exact ⟨_,_,hw.symm,.inr ⟨_,rfl,hst⟩⟩
  have h2':=λτ=>h2 (BI s)[0] τ (by omega)
  have h3':=λτ=>h3 (BI s)[4] τ (by omega)
  by_cases h45:(BI s)[4]=[45]
  ·simp (disch:=try exact dD _) only [↓reduceIte,↓rK,rP,Nat.reduceAdd,h1,h6w,Ay FV,i0,i1,i2,i3,i4,h2',↓BA,BA,h45] at hw;obtain ⟨vs,σ',g1,g2⟩:=rest [] (by simp) (CG (BI s)[0]).2 ((((St.empty.new (.blk [.int .i64 0,.str [],.str [],.str [],.str [],.nilS,.nilS] 70 0 false)).new (.blk [.int .i64 0,.str [],.str [],.str [],.str [],.nilS,.nilS] 70 0 false)).put 1 (.blk [.int .i64 (CG (BI s)[0]).1,.str (BI s)[1],.str (BI s)[2],.str (BI s)[3],.str [45],.nilS,.nilS] 70 0 false)).put 1 (.blk [.int .i64 (CG (BI s)[0]).1,.str (BI s)[1],.str (BI s)[2],.str (BI s)[3],.str [],.nilS,.nilS] 70 0 false)) (by simp (disch:=omega) only [St.zAg,St.zAe,Aa,BD,if_neg,if_true,eq_self]) (by rw [St.zAg,if_pos rfl]);rw [g1] at hw;rcases g2 with rfl | ⟨t,rfl,ht⟩
   ·simp only [rO,AL] at hw;exact ⟨_,_,hw.symm,.inl rfl⟩
   ·simp only [rO,AL] at hw;exact ⟨_,_,hw.symm,.inr ⟨t,rfl,ht⟩⟩
  ·simp (disch:=try exact dD _) only [↓reduceIte,↓rK,rP,h1,h6w,Ay FV,i0,i1,i2,i3,i4,h2',h3',↓BA,BA,h45] at hw;cases hsy:Eb (BI s)[4] with
   | false =>
    have st0: ∀ (σ':St) (v:V),σ'.get 0=some (.blk [.int .i64 0,.str [],.str [],.str [],.str [],.nilS,.nilS] 70 0 false)->v.cells.length=7->BO v.cells=true->storeAt env 70 (.ptr 0 0 0) v σ'=some (σ'.put 0 (.blk v.cells 70 0 false)):=λσ' v h hv ho=>Ef FV h rfl hv ho
    simp (disch:=first | omega | (simp (disch:=omega) only [St.zAg,St.zAe,Aa,BD,if_neg,if_true,eq_self];done) | first | exact dD _ | assumption) only [↓reduceIte,rP,AL,Nat.reduceAdd,hsy,st0] at hw;exact ⟨_,_,hw.symm,.inl rfl⟩
   | true =>
    simp (disch:=try exact dD _) only [↓reduceIte,rP,hsy] at hw;obtain ⟨vs,σ',g1,g2⟩:=rest (BI s)[4] (by omega) (CG (BI s)[0]).2 (((St.empty.new (.blk [.int .i64 0,.str [],.str [],.str [],.str [],.nilS,.nilS] 70 0 false)).new (.blk [.int .i64 0,.str [],.str [],.str [],.str [],.nilS,.nilS] 70 0 false)).put 1 (.blk [.int .i64 (CG (BI s)[0]).1,.str (BI s)[1],.str (BI s)[2],.str (BI s)[3],.str (BI s)[4],.nilS,.nilS] 70 0 false)) (by simp (disch:=omega) only [St.zAg,St.zAe,Aa,BD,if_neg,if_true,eq_self]) (by rw [St.zAg,if_pos rfl]);rw [g1] at hw;rcases g2 with rfl | ⟨t,rfl,ht⟩
    ·simp only [rO,AL] at hw;exact ⟨_,_,hw.symm,.inl rfl⟩
    ·simp only [rO,AL] at hw;exact ⟨_,_,hw.symm,.inr ⟨t,rfl,ht⟩⟩
def CF (n m:Int):Int:=if n.tmod m<0 then n.tmod m+m else n.tmod m
theorem Er (n m:Int) (hm:0<m):0<=CF n m/\CF n m<m:=by
 have h1:=Int.tmod_lt_of_pos n hm;have h2: -m<n.tmod m:=by
  have:=Int.tmod_lt_of_pos (-n) hm;rw [Int.neg_tmod] at this;omega
 unfold CF
 split<;>omega
theorem pO (call:SS.Call) (k:Nat) (n m:Int) (hm:0<m) (hb:m<1000000000) (τ:St):t33 call k [.int .i64 n,.int .i64 m] τ=some (.int .i64 (CF n m),τ):=by
 have h1:=Int.tmod_lt_of_pos n hm;have h2: -m<n.tmod m:=by
  have:=Int.tmod_lt_of_pos (-n) hm;rw [Int.neg_tmod] at this;omega
 have hr:=λK=>Qr (R:=AEx×List V×St) (x:=n) (y:=m) (by omega) K
 unfold t33 t33_0;by_cases hn:n.tmod m<0
 ·simp (disch:=try exact dD _) only [↓reduceIte,↓rK,rP,AL,hr,hn];unfold CF;rw [if_pos hn]
 ·simp (disch:=try exact dD _) only [↓reduceIte,↓rK,rP,AL,hr,hn];unfold CF;rw [if_neg hn]
def fed (l:List Int) (a:Nat) (m:Int):Int:=match l[(a+1) % l.length]? with
 | some x=>CF (IntKind.i64.wrap (x.tdiv (1+(((a+1) / l.length:Nat):Int)))) m
 | none=>0
theorem aT (l:List Int) (a:Nat) (m:Int) (hm:0<m):0<=fed l a m/\fed l a m<m:=by
 unfold fed
 split
 ·exact Er _ _ hm
 ·omega
theorem nT {call:SS.Call} (h1: ∀ (n m:Int) τ,0<m->m<1000000000->call 33 [.int .i64 n,.int .i64 m] τ=some (.int .i64 (CF n m),τ)) {k:Nat} (l:List Int) (hl0:l≠[]) (a q:Nat) (ha:a<1000000000) (m:Int) (hm:0<m) (hb:m<1000000000) (τ:St)
 (hq:τ.get q=some (.blk [(AA AJ).enc l,.int .i64 (a:Int)] 116 0 false)) :
 t73 call k [.ptr q 0 0,.int .i64 m] τ=some (.int .i64 (fed l a m),τ.put q (.blk [(AA AJ).enc l,.int .i64 ((a+1:Nat):Int)] 116 0 false)):=by
 have hpos:0<l.length:=List.length_pos_iff.2 hl0;have hne:¬((l.length:Int)=0):=by omega
 have e1:((a:Int)+1)=((a+1:Nat):Int):=by omega
 have hr: ∀ K:Int->Option (AEx×List V×St),De ((a+1:Nat):Int) (l.length:Int) K=K (((a+1) % l.length:Nat):Int):=λK=>LJ (a+1) l.length K hpos
 have hlt:(a+1) % l.length<l.length:=Nat.mod_lt _ hpos;have hd:(a+1) / l.length<=a+1:=Nat.div_le_self _ _;have hq1: ∀ K:Int->Option (AEx×List V×St),CZ 9223372036854775807 IntKind.i64 ((a+1:Nat):Int) (l.length:Int) K=K (((a+1) / l.length:Nat):Int):=λK=>by
  rw [Mh (mx:=9223372036854775807) (k:=.i64) rfl hne];have e:(((a+1:Nat):Int)).tdiv (l.length:Int)=(((a+1) / l.length:Nat):Int):=rfl;have hc:(((a+1) / l.length:Nat):Int)<=((a+1:Nat):Int):=Int.ofNat_le.2 hd;rw [e,J2 (Int.le_trans (by decide) (Int.natCast_nonneg _)) (Int.le_trans hc (by omega))]
 have hy:(1+(((a+1) / l.length:Nat):Int))≠0:=by
  have:=Int.natCast_nonneg ((a+1) / l.length);intro h;omega
 have hq2: ∀ (x:Int) (K:Int->Option (AEx×List V×St)),CZ 9223372036854775807 IntKind.i64 x (1+(((a+1) / l.length:Nat):Int)) K=K (IntKind.i64.wrap (x.tdiv (1+(((a+1) / l.length:Nat):Int)))):=λx K=>Mh (mx:=9223372036854775807) (k:=.i64) rfl hy K
 have hfed:fed l a m=CF (IntKind.i64.wrap (l[(a+1) % l.length].tdiv (1+(((a+1) / l.length:Nat):Int)))) m:=by
  unfold fed;rw [List.getElem?_eq_getElem hlt]
 have hadd: ∀ K:Int->Option (AEx×List V×St),Ab 9223372036854775807 .i64 1 (((a+1) / l.length:Nat):Int) K=K (1+(((a+1) / l.length:Nat):Int)):=λK=>by
  have hc:(((a+1) / l.length:Nat):Int)<=((a+1:Nat):Int):=Int.ofNat_le.2 hd;have hn:=Int.natCast_nonneg ((a+1) / l.length);exact NP K (Int.le_trans (by decide) (Int.add_nonneg (by decide) hn)) (Int.le_trans (Int.add_le_add_left hc 1) (by omega))
 unfold t73;simp (disch:=try exact dD _) only [↓reduceIte,↓rK,rP,AL,Nat.reduceAdd,hq,hne,e1,hr,hq1,hadd,hq2,h1];rw [hfed]
def Fd (τ:St) (q:Nat) (l:List Int) (a:Nat):Prop:=τ.get q=some (.blk [(AA AJ).enc l,.int .i64 (a:Int)] 116 0 false)
def Fed (τ σ:St) (q:Nat) (l:List Int) (a a':Nat):Prop:=Fd σ q l a'/\(∀ c,c≠q->σ.get c=τ.get c)/\σ.n=τ.n/\a<=a'
theorem Fed.trans {τ σ ρ:St} {q:Nat} {l:List Int} {a b c:Nat} (h1:Fed τ σ q l a b) (h2:Fed σ ρ q l b c):Fed τ ρ q l a c :=
 ⟨h2.1,λx hx=>(h2.2.1 x hx).trans (h1.2.1 x hx),h2.2.2.1.trans h1.2.2.1,Nat.le_trans h1.2.2.2 h2.2.2.2⟩
theorem nS (l:List Int) (a q:Nat) (ha:a<1000000000) (m:Int) (hm:0<m) (hb:m<1000000000) (τ:St) (hq:Fd τ q l a) :
 ∃ (r:Int) (σ:St) (a':Nat),(∀ (call:SS.Call) (k:Nat),(∀ (n m:Int) τ,0<m->m<1000000000->call 33 [.int .i64 n,.int .i64 m] τ=some (.int .i64 (CF n m),τ))->t73 call k [.ptr q 0 0,.int .i64 m] τ=some (.int .i64 r,σ))/\0<=r/\r<m/\Fed τ σ q l a a'/\a'<=a+1:=by
 by_cases hl0:l=[]
 ·subst hl0;have hq':τ.get q=some (.blk [(AA AJ).enc [],.int .i64 (a:Int)] 116 0 false):=hq;refine ⟨0,τ,a,λcall k _=>?_,by omega,hm,⟨hq,λ_ _=>rfl,rfl,Nat.le_refl _⟩,by omega⟩;have hz:(([]:List Int).length:Int)=0:=rfl;unfold t73;simp (disch:=try exact dD _) only [↓reduceIte,↓rK,rP,AL,hq']
 ·obtain ⟨h2,h3⟩:=aT l a m hm;exact ⟨fed l a m,_,a+1,λcall k h1=>nT h1 l hl0 a q ha m hm hb τ hq,h2,h3,⟨by unfold Fd;rw [St.zAg,if_pos rfl],λc hc=>by rw [St.zAg,if_neg hc],A9 _ _,by omega⟩,by omega⟩
def Bh (s:B):Prop:=∀ c∈s,c≠10
theorem Bh.app {s t:B} (h1:Bh s) (h2:Bh t):Bh (s++t):=λc hc=>(List.mem_append.1 hc).elim (h1 c) (h2 c)
theorem LC:env.P.underlying 91=some (.array 3 9):=by kernel_rfl
theorem Qg:env.G 0=some [.str [120],.str [121],.str [122]]:=by kernel_rfl
theorem Uy:env.G 1=some [.str [112],.str [113],.str [114]]:=by kernel_rfl
theorem mQ:env.G 2=some [.str [97],.str [98],.str [99],.str [100]]:=by kernel_rfl
theorem J5 {t el:TypeId} {len g off sz:Nat} (hd:env.P.underlying t=some (.array len el)) (hi:(env.P.info? el).map (·.size)=some sz) {n:Nat} (hn:n<len) :
 indexAt env t (.gptr g off) (.int .i64 (n:Int))=some (.gptr g (off+n*sz)):=by
 obtain ⟨i,h1,h2⟩:=Option.map_eq_some_iff.1 hi;have h2:i.size=sz:=h2;unfold indexAt;have hr:Fu (n:Int) len=some n:=by
  show (if Nat.blt n len then some n else none)=some n;have:Nat.blt n len=true:=by rw [Nat.blt_eq];exact hn
  rw [this];rfl
 simp only [hd,h1,hr,h2]
theorem H6 {g off n:Nat} {cs:List V} {v:V} {R:Type} (hg:env.G g=some cs) (hc:cs[off+n]? = some v) (h1:v.one=true) (σ:St) (K:V->Option R):ld1 env (.gptr g off) n σ K=K v:=by
 show oK (env.G g) (λcs=>oK (Dn cs (off+n)) λv=>gd v.isOne (K v))=_;rw [hg,Fa,Dp,hc,Fa,V.zAh,h1];rfl
theorem BP {s:B} (h:(s.all λc=>!(c==10))=true):Bh s:=λc hc=>by
 have:=List.all_eq_true.1 h c hc;simpa using this
theorem EE {v:UInt8} (h:v≠10):Bh [v]:=λc hc=>by
 rw [List.mem_singleton.1 hc];exact h
theorem dE (a b c d:B):CD env 150 [(0,(V.str [49])),(1,(V.str [49])),(2,(V.str a)),(3,(V.str b)),(4,(V.str c)),(5,(V.str [120,33,61,121])),(6,(V.str [112,64,97,124,124,120,60,50])),(7,(V.str [33,40,113,64,98,41])),(8,(V.str d))] =
 some (.agg [.str [49],.str [49],.str a,.str b,.str c,.str [120,33,61,121],.str [112,64,97,124,124,120,60,50],.str [33,40,113,64,98,41],.str d]):=by kernel_rfl
theorem dV (a b c d e f g h i:B) (n:Nat) (hn:n<9): ∃ s,s∈[a,b,c,d,e,f,g,h,i]/\Cn env 150 (.agg [.str a,.str b,.str c,.str d,.str e,.str f,.str g,.str h,.str i]) (.int .i64 (n:Int))=some (.str s):=by
 have:n=0\/n=1\/n=2\/n=3\/n=4\/n=5\/n=6\/n=7\/n=8:=by omega
 rcases this with rfl | rfl | rfl | rfl | rfl | rfl | rfl | rfl | rfl
 ·exact ⟨a,by simp,by kernel_rfl⟩
 ·exact ⟨b,by simp,by kernel_rfl⟩
 ·exact ⟨c,by simp,by kernel_rfl⟩
 ·exact ⟨d,by simp,by kernel_rfl⟩
 ·exact ⟨e,by simp,by kernel_rfl⟩
 ·exact ⟨f,by simp,by kernel_rfl⟩
 ·exact ⟨g,by simp,by kernel_rfl⟩
 ·exact ⟨h,by simp,by kernel_rfl⟩
 ·exact ⟨i,by simp,by kernel_rfl⟩
theorem dJ {C:Nat->SS.Call} {l:List Int} {q:Nat} (hnx: ∀ (a:Nat) (m:Int) τ,a<1000000->0<m->m<1000->Fd τ q l a->∃ (r:Int) (σ:St) (a':Nat),(∀ k,1<=k->C k 73 [.ptr q 0 0,.int .i64 m] τ=some (.int .i64 r,σ))/\0<=r/\r<m/\Fed τ σ q l a a'/\a'<=a+1) (a:Nat) (ha:a<900000) (τ:St) (hq:Fd τ q l a) :
 ∃ (s:B) (σ:St) (a':Nat),(∀ k,1<=k->t74 (C k) k [.ptr q 0 0] τ=some (.str s,σ))/\Bh s/\s.length<=20/\Fed τ σ q l a a'/\a'<=a+2:=by
 obtain ⟨r,σ,a1,c1,r0,r1,f1,g1⟩:=hnx a 2 τ (by omega) (by omega) (by omega) hq;obtain ⟨r2,σ2,a2,c2,r3,r4,f2,g2⟩:=hnx a1 9 σ (by omega) (by omega) (by omega) f1.1;obtain ⟨n,rfl⟩: ∃ n:Nat,r=(n:Int):=⟨r.toNat,by omega⟩
 obtain ⟨n2,rfl⟩: ∃ n:Nat,r2=(n:Int):=⟨r2.toNat,by omega⟩
 have hv: ∃ v:UInt8,v≠10/\([.str [120],.str [121],.str [122]]:List V)[n]? = some (.str [v]):=by
  have:n=0\/n=1:=by omega
  rcases this with rfl | rfl
  ·exact ⟨120,by decide,rfl⟩
  ·exact ⟨121,by decide,rfl⟩
 obtain ⟨v,hv10,hvg⟩:=hv;have hix:indexAt env 91 (.gptr 0 0) (.int .i64 (n:Int))=some (.gptr 0 n):=by
  have:=J5 (g:=0) (off:=0) LC GJ (n:=n) (by omega);rw [this];simp
 have hld: ∀ (σ:St) (K:V->Option (AEx×List V×St)),ld1 env (.gptr 0 n) 0 σ K=K (.str [v]):=λσ K=>H6 (n:=0) (off:=n) Qg hvg rfl σ K
 obtain ⟨s,hs1,hs2⟩:=dV [49] [49] ([v]++[60,49]) ([v]++[62,48]) ([v]++[61,61,49]) [120,33,61,121] [112,64,97,124,124,120,60,50] [33,40,113,64,98,41] ([v]++[60,50]) n2 (by omega);refine ⟨s,σ2,a2,λk hk=>?_,?_,?_,f1.trans f2,by omega⟩
 ·have c1:=c1 k hk;have c2:=c2 k hk;unfold t74;simp (disch:=try exact dD _) only [↓rK,rP,AL,c1,hix,hld,dE,c2,hs2]
 ·simp only [List.mem_cons,List.not_mem_nil,or_false] at hs1;rcases hs1 with rfl | rfl | rfl | rfl | rfl | rfl | rfl | rfl | rfl<;>first | exact BP (by decide) | exact (EE hv10).app (BP (by decide))
 ·simp only [List.mem_cons,List.not_mem_nil,or_false] at hs1;rcases hs1 with rfl | rfl | rfl | rfl | rfl | rfl | rfl | rfl | rfl<;>simp
theorem tI (a b c d e f:B):CD env 119 [(0,(V.str [48])),(1,(V.str [49])),(2,(V.str a)),(3,(V.str b)),(4,(V.str c)),(5,(V.str d)),(6,(V.str e)),(7,(V.str f))] =
 some (.agg [.str [48],.str [49],.str a,.str b,.str c,.str d,.str e,.str f]):=by kernel_rfl
theorem Td (a b c d e f g h:B) (n:Nat) (hn:n<8): ∃ s,s∈[a,b,c,d,e,f,g,h]/\Cn env 119 (.agg [.str a,.str b,.str c,.str d,.str e,.str f,.str g,.str h]) (.int .i64 (n:Int))=some (.str s):=by
 have:n=0\/n=1\/n=2\/n=3\/n=4\/n=5\/n=6\/n=7:=by omega
 rcases this with rfl | rfl | rfl | rfl | rfl | rfl | rfl | rfl
 ·exact ⟨a,by simp,by kernel_rfl⟩
 ·exact ⟨b,by simp,by kernel_rfl⟩
 ·exact ⟨c,by simp,by kernel_rfl⟩
 ·exact ⟨d,by simp,by kernel_rfl⟩
 ·exact ⟨e,by simp,by kernel_rfl⟩
 ·exact ⟨f,by simp,by kernel_rfl⟩
 ·exact ⟨g,by simp,by kernel_rfl⟩
 ·exact ⟨h,by simp,by kernel_rfl⟩
theorem LB (n:Nat) (hn:n<2): ∃ v:UInt8,v≠10/\indexAt env 91 (.gptr 0 0) (.int .i64 (n:Int))=some (.gptr 0 n)/\∀ (σ:St) (K:V->Option (AEx×List V×St)),ld1 env (.gptr 0 n) 0 σ K=K (.str [v]):=by
 have hv: ∃ v:UInt8,v≠10/\([.str [120],.str [121],.str [122]]:List V)[n]? = some (.str [v]):=by
  have:n=0\/n=1:=by omega
  rcases this with rfl | rfl
  ·exact ⟨120,by decide,rfl⟩
  ·exact ⟨121,by decide,rfl⟩
 obtain ⟨v,hv10,hvg⟩:=hv;refine ⟨v,hv10,?_,λσ K=>H6 (n:=0) (off:=n) Qg hvg rfl σ K⟩;have:=J5 (g:=0) (off:=0) LC GJ (n:=n) (by omega);rw [this];simp
theorem tJ {C:Nat->SS.Call} {l:List Int} {q:Nat} (hnx: ∀ (a:Nat) (m:Int) τ,a<1000000->0<m->m<1000->Fd τ q l a->∃ (r:Int) (σ:St) (a':Nat),(∀ k,1<=k->C k 73 [.ptr q 0 0,.int .i64 m] τ=some (.int .i64 r,σ))/\0<=r/\r<m/\Fed τ σ q l a a'/\a'<=a+1) (a:Nat) (ha:a<900000) (τ:St) (hq:Fd τ q l a) :
 ∃ (s:B) (σ:St) (a':Nat),(∀ k,1<=k->t76 (C k) k [.ptr q 0 0] τ=some (.str s,σ))/\Bh s/\s.length<=20/\Fed τ σ q l a a'/\a'<=a+3:=by
 obtain ⟨r,σ,a1,c1,r0,r1,f1,g1⟩:=hnx a 2 τ (by omega) (by omega) (by omega) hq;obtain ⟨r2,σ2,a2,c2,r3,r4,f2,g2⟩:=hnx a1 2 σ (by omega) (by omega) (by omega) f1.1;obtain ⟨r5,σ3,a3,c3,r6,r7,f3,g3⟩:=hnx a2 8 σ2 (by omega) (by omega) (by omega) f2.1;obtain ⟨n,rfl⟩: ∃ n:Nat,r=(n:Int):=⟨r.toNat,by omega⟩
 obtain ⟨n2,rfl⟩: ∃ n:Nat,r2=(n:Int):=⟨r2.toNat,by omega⟩
 obtain ⟨n3,rfl⟩: ∃ n:Nat,r5=(n:Int):=⟨r5.toNat,by omega⟩
 obtain ⟨v,hv10,hix,hld⟩:=LB n (by omega);obtain ⟨u,hu10,hix2,hld2⟩:=LB n2 (by omega);obtain ⟨s,hs1,hs2⟩:=Td [48] [49] [v] ([49,45]++[v]) ([v]++[43,49]) ([v]++[45,49]) ([50,45]++[v]) [u] n3 (by omega);have hbr:V.beq (.str [u]) (.str [u])=true:=V.beq_refl _;refine ⟨s,σ3,a3,λk hk=>?_,?_,?_,(f1.trans f2).trans f3,by omega⟩
 ·have c1:=c1 k hk;have c2:=c2 k hk;have c3:=c3 k hk;unfold t76;simp (disch:=try exact dD _) only [↓rK,rP,AL,c1,hix,hld,tI,c2,hix2,hld2,c3,hs2,hbr]
 ·simp only [List.mem_cons,List.not_mem_nil,or_false] at hs1;rcases hs1 with rfl | rfl | rfl | rfl | rfl | rfl | rfl | rfl<;>first | exact BP (by decide) | exact (EE hv10).app (BP (by decide)) | exact (BP (by decide)).app (EE hv10) | exact EE hv10 | exact EE hu10
 ·simp only [List.mem_cons,List.not_mem_nil,or_false] at hs1;rcases hs1 with rfl | rfl | rfl | rfl | rfl | rfl | rfl | rfl<;>simp
def FD (s:B) (lv Ck:Int):B:=if lv<Ck then [40]++s++[41] else s
theorem xE (call:SS.Call) (k:Nat) (s:B) (lv Ck:Int) (hs:s.length<1000000000) :
 ∃ σ,t125 call k [.agg [.str s,.int .i64 lv],.int .i64 Ck] .empty=some (.str (FD s lv Ck),σ):=by
 have hc:V.cellsF (.agg [.str s,.int .i64 lv])=[.str s,.int .i64 lv]:=by rw [V.zAb];rfl
 generalize hw:t125 call k [.agg [.str s,.int .i64 lv],.int .i64 Ck] .empty=w;unfold t125 at hw;unfold FD;by_cases h:lv<Ck
 ·simp (disch:=try exact dD _) only [↓reduceIte,↓rK,rP,AL,hc,h] at hw;rw [if_pos h];exact ⟨_,hw.symm⟩
 ·simp (disch:=try exact dD _) only [↓reduceIte,↓rK,rP,AL,hc,h] at hw;rw [if_neg h];exact ⟨_,hw.symm⟩
theorem Zu (call:SS.Call) (k:Nat) (n:Int) (σ:St) (d:B) (h:call 66 [.int .i64 n] σ=some (.str d,σ)):t51 call k [.int .i64 n] σ=some (.str d,σ):=by
 unfold t51;simp (disch:=try exact dD _) only [↓rK,rP,AL,h]
theorem Ut: ∀ n,n<1000->(Bp n).length<=3:=by
 intro n hn;unfold Bp
 split
 ·simp
 ·unfold Bp
  split
  ·simp
  ·unfold Bp
   split
   ·simp
   ·omega
theorem IW (n:Int) (h1: -999<=n) (h2:n<=999):(BK n).length<=4:=by
 unfold BK
 split
 ·have:=Ut (-n).toNat (by omega);simp;omega
 ·have:=Ut n.toNat (by omega);omega
theorem mP:env.P.underlying 118=some (.array 4 9):=by kernel_rfl
theorem l9:CD env 118 [(0,(V.str [48])),(1,(V.str [49])),(2,(V.str [50])),(3,(V.str [48,48,55]))]=some (.agg [.str [48],.str [49],.str [50],.str [48,48,55]]):=by kernel_rfl
theorem dU (a b c d:B) (n:Nat) (hn:n<4): ∃ s,s∈[a,b,c,d]/\Cn env 118 (.agg [.str a,.str b,.str c,.str d]) (.int .i64 (n:Int))=some (.str s):=by
 have:n=0\/n=1\/n=2\/n=3:=by omega
 rcases this with rfl | rfl | rfl | rfl
 ·exact ⟨a,by simp,by kernel_rfl⟩
 ·exact ⟨b,by simp,by kernel_rfl⟩
 ·exact ⟨c,by simp,by kernel_rfl⟩
 ·exact ⟨d,by simp,by kernel_rfl⟩
theorem Ux (n:Nat) (hn:n<3): ∃ v:UInt8,v≠10/\indexAt env 91 (.gptr 1 0) (.int .i64 (n:Int))=some (.gptr 1 n)/\∀ (σ:St) (K:V->Option (AEx×List V×St)),ld1 env (.gptr 1 n) 0 σ K=K (.str [v]):=by
 have hv: ∃ v:UInt8,v≠10/\([.str [112],.str [113],.str [114]]:List V)[n]? = some (.str [v]):=by
  have:n=0\/n=1\/n=2:=by omega
  rcases this with rfl | rfl | rfl
  ·exact ⟨112,by decide,rfl⟩
  ·exact ⟨113,by decide,rfl⟩
  ·exact ⟨114,by decide,rfl⟩
 obtain ⟨v,hv10,hvg⟩:=hv;refine ⟨v,hv10,?_,λσ K=>H6 (n:=0) (off:=n) Uy hvg rfl σ K⟩;have:=J5 (g:=1) (off:=0) LC GJ (n:=n) (by omega);rw [this];simp
theorem Pg (n:Nat) (hn:n<4): ∃ v:UInt8,v≠10/\indexAt env 118 (.gptr 2 0) (.int .i64 (n:Int))=some (.gptr 2 n)/\∀ (σ:St) (K:V->Option (AEx×List V×St)),ld1 env (.gptr 2 n) 0 σ K=K (.str [v]):=by
 have hv: ∃ v:UInt8,v≠10/\([.str [97],.str [98],.str [99],.str [100]]:List V)[n]? = some (.str [v]):=by
  have:n=0\/n=1\/n=2\/n=3:=by omega
  rcases this with rfl | rfl | rfl | rfl
  ·exact ⟨97,by decide,rfl⟩
  ·exact ⟨98,by decide,rfl⟩
  ·exact ⟨99,by decide,rfl⟩
  ·exact ⟨100,by decide,rfl⟩
 obtain ⟨v,hv10,hvg⟩:=hv;refine ⟨v,hv10,?_,λσ K=>H6 (n:=0) (off:=n) mQ hvg rfl σ K⟩;have:=J5 (g:=2) (off:=0) mP GJ (n:=n) (by omega);rw [this];simp
theorem Pb {C:Nat->SS.Call} {l:List Int} {q:Nat} (hnx: ∀ (a:Nat) (m:Int) τ,a<1000000->0<m->m<1000->Fd τ q l a->∃ (r:Int) (σ:St) (a':Nat),(∀ k,1<=k->C k 73 [.ptr q 0 0,.int .i64 m] τ=some (.int .i64 r,σ))/\0<=r/\r<m/\Fed τ σ q l a a'/\a'<=a+1) (a:Nat) (ha:a<900000) (τ:St) (hq:Fd τ q l a) (kd:Int) (isN:Bool) :
 ∃ (s:B) (σ:St) (a':Nat),(∀ k,1<=k->t75_0 (C k) k [.ptr q 0 0,.int .i64 kd,.bool isN] τ=some (.ret,[.str s],σ))/\Bh s/\s.length<=3/\Fed τ σ q l a a'/\a'<=a+2:=by
 cases isN with
 | true =>
  obtain ⟨r,σ,a1,c1,r0,r1,f1,g1⟩:=hnx a 4 τ (by omega) (by omega) (by omega) hq;obtain ⟨n,rfl⟩: ∃ n:Nat,r=(n:Int):=⟨r.toNat,by omega⟩
  obtain ⟨s,hs1,hs2⟩:=dU [48] [49] [50] [48,48,55] n (by omega);refine ⟨s,σ,a1,λk hk=>?_,?_,?_,f1,by omega⟩
  ·have c1:=c1 k hk;unfold t75_0;simp (disch:=try exact dD _) only [↓reduceIte,↓rK,rP,l9,c1,hs2]
  ·simp only [List.mem_cons,List.not_mem_nil,or_false] at hs1;rcases hs1 with rfl | rfl | rfl | rfl<;>exact BP (by decide)
  ·simp only [List.mem_cons,List.not_mem_nil,or_false] at hs1;rcases hs1 with rfl | rfl | rfl | rfl<;>simp
 | false =>
  obtain ⟨r,σ,a1,c1,r0,r1,f1,g1⟩:=hnx a 2 τ (by omega) (by omega) (by omega) hq;obtain ⟨n,rfl⟩: ∃ n:Nat,r=(n:Int):=⟨r.toNat,by omega⟩
  by_cases h16:kd=16
  ·obtain ⟨r2,σ2,a2,c2,r3,r4,f2,g2⟩:=hnx a1 3 σ (by omega) (by omega) (by omega) f1.1;obtain ⟨n2,rfl⟩: ∃ n:Nat,r2=(n:Int):=⟨r2.toNat,by omega⟩
   obtain ⟨v,hv10,hix,hld⟩:=Ux n (by omega);obtain ⟨u,hu10,hix2,hld2⟩:=Pg n2 (by omega);have hbr:V.beq (.str [v]) (.str [v])=true:=V.beq_refl _;refine ⟨[v]++[64]++[u],σ2,a2,λk hk=>?_,((EE hv10).app (BP (by decide))).app (EE hu10),by simp,f1.trans f2,by omega⟩;have c1:=c1 k hk;have c2:=c2 k hk;unfold t75_0;simp (disch:=try exact dD _) only [↓reduceIte,↓rK,rP,c1,hix,hld,c2,hix2,hld2,hbr,h16]
  ·obtain ⟨v,hv10,hix,hld⟩:=LB n (by omega);refine ⟨[v],σ,a1,λk hk=>?_,EE hv10,by simp,f1,by omega⟩;have c1:=c1 k hk;unfold t75_0;simp (disch:=try exact dD _) only [↓reduceIte,↓rK,rP,c1,hix,hld,h16]
theorem UY {C:Nat->SS.Call} {l:List Int} {q:Nat} (hnx: ∀ (a:Nat) (m:Int) τ,a<1000000->0<m->m<1000->Fd τ q l a->∃ (r:Int) (σ:St) (a':Nat),(∀ k,1<=k->C k 73 [.ptr q 0 0,.int .i64 m] τ=some (.int .i64 r,σ))/\0<=r/\r<m/\Fed τ σ q l a a'/\a'<=a+1) (a:Nat) (ha:a<900000) (τ:St) (hq:Fd τ q l a) (d kd:Int) (h14:14<=kd) :
 ∃ (s:B) (σ:St) (a':Nat),(∀ k,1<=k->t75_1 (C k) k [.ptr q 0 0,.int .i64 d,.int .i64 kd] τ=some (.ret,[.str s],σ))/\Bh s/\s.length<=3/\Fed τ σ q l a a'/\a'<=a+2:=by
 by_cases he:kd=14
 ·obtain ⟨s,σ,a',h1,h2⟩:=Pb hnx a ha τ hq kd true;refine ⟨s,σ,a',λk hk=>?_,h2⟩;subst he;have h1:=h1 k hk;unfold t75_1;simp (disch:=try exact dD _) only [↓reduceIte,↓rK,rP,h1]
 ·by_cases h15:kd=15
  ·obtain ⟨s,σ,a',h1,h2⟩:=Pb hnx a ha τ hq kd true;refine ⟨s,σ,a',λk hk=>?_,h2⟩;subst h15;have h1:=h1 k hk;unfold t75_1;simp (disch:=try exact dD _) only [↓reduceIte,↓rK,rP,h1]
  ·obtain ⟨s,σ,a',h1,h2⟩:=Pb hnx a ha τ hq kd false;refine ⟨s,σ,a',λk hk=>?_,h2⟩;have h1:=h1 k hk;unfold t75_1;simp (disch:=try exact dD _) only [↓reduceIte,↓rK,rP,he,h15,h1]
theorem RU:CD env 151 [(0,(V.str [43])),(1,(V.str [45])),(2,(V.str [42])),(3,(V.str [60])),(4,(V.str [60,61])),(5,(V.str [61,61])),(6,(V.str [33,61])),(7,(V.str [38,38])),(8,(V.str [124,124])),(9,(V.str [62])),(10,(V.str [62,61]))] =
 some (.agg [.str [43],.str [45],.str [42],.str [60],.str [60,61],.str [61,61],.str [33,61],.str [38,38],.str [124,124],.str [62],.str [62,61]]):=by kernel_rfl
theorem dS (n:Nat) (hn:n<11): ∃ s:B,Bh s/\s.length<=2/\Cn env 151 (.agg [.str [43],.str [45],.str [42],.str [60],.str [60,61],.str [61,61],.str [33,61],.str [38,38],.str [124,124],.str [62],.str [62,61]]) (.int .i64 (n:Int))=some (.str s):=by
 have:n=0\/n=1\/n=2\/n=3\/n=4\/n=5\/n=6\/n=7\/n=8\/n=9\/n=10:=by omega
 rcases this with rfl | rfl | rfl | rfl | rfl | rfl | rfl | rfl | rfl | rfl | rfl
 ·exact ⟨[43],BP (by decide),by decide,by kernel_rfl⟩
 ·exact ⟨[45],BP (by decide),by decide,by kernel_rfl⟩
 ·exact ⟨[42],BP (by decide),by decide,by kernel_rfl⟩
 ·exact ⟨[60],BP (by decide),by decide,by kernel_rfl⟩
 ·exact ⟨[60,61],BP (by decide),by decide,by kernel_rfl⟩
 ·exact ⟨[61,61],BP (by decide),by decide,by kernel_rfl⟩
 ·exact ⟨[33,61],BP (by decide),by decide,by kernel_rfl⟩
 ·exact ⟨[38,38],BP (by decide),by decide,by kernel_rfl⟩
 ·exact ⟨[124,124],BP (by decide),by decide,by kernel_rfl⟩
 ·exact ⟨[62],BP (by decide),by decide,by kernel_rfl⟩
 ·exact ⟨[62,61],BP (by decide),by decide,by kernel_rfl⟩
theorem oD {C:Nat->SS.Call} {l:List Int} {q:Nat} (hnx: ∀ (a:Nat) (m:Int) τ,a<1000000->0<m->m<1000->Fd τ q l a->∃ (r:Int) (σ:St) (a':Nat),(∀ k,1<=k->C k 73 [.ptr q 0 0,.int .i64 m] τ=some (.int .i64 r,σ))/\0<=r/\r<m/\Fed τ σ q l a a'/\a'<=a+1) (d:Nat) (hd:d<100) (A L:Nat) (hA:A<10000) (hL:L<100000) (N:Nat) (hN:N<=900000)
 (ih: ∀ a τ,a<N->Fd τ q l a->∃ (K:Nat) (s:B) (σ:St) (a':Nat),(∀ k,K<=k->C k 75 [.ptr q 0 0,.int .i64 ((d+1:Nat):Int)] τ=some (.str s,σ))/\Bh s/\s.length<=L/\Fed τ σ q l a a'/\a'<=a+A)
 (a:Nat) (ha:a+A<N) (τ:St) (hq:Fd τ q l a) (kd:Int) (hk:kd<10) :
 ∃ (K:Nat) (s:B) (σ:St) (a':Nat),(∀ k,K<=k->t75_1 (C k) k [.ptr q 0 0,.int .i64 (d:Int),.int .i64 kd] τ=some (.ret,[.str s],σ))/\Bh s/\s.length<=2*L+8/\Fed τ σ q l a a'/\a'<=a+2*A+2:=by
 obtain ⟨K1,s1,σ1,a1,c1,d1,e1,f1,g1⟩:=ih a τ (by omega) hq;obtain ⟨K2,s2,σ2,a2,c2,d2,e2,f2,g2⟩:=ih a1 σ1 (by omega) f1.1;obtain ⟨r,σ3,a3,c3,r0,r1,f3,g3⟩:=hnx a2 11 σ2 (by omega) (by omega) (by omega) f2.1;obtain ⟨n,rfl⟩: ∃ n:Nat,r=(n:Int):=⟨r.toNat,by omega⟩
 obtain ⟨r2,σ4,a4,c4,r3,r4,f4,g4⟩:=hnx a3 2 σ3 (by omega) (by omega) (by omega) f3.1;obtain ⟨w,w1,w2,w3⟩:=dS n (by omega);have ed:((d:Int)+1)=((d+1:Nat):Int):=by omega
 by_cases hz:r2=0
 ·refine ⟨K1+K2+1,[40]++s1++[41]++w++[40]++s2++[41],σ4,a4,λk hk=>?_,?_,by simp;omega,((f1.trans f2).trans f3).trans f4,by omega⟩
  ·have c1:=c1 k (by omega);have c2:=c2 k (by omega);have c3:=c3 k (by omega);have c4:=c4 k (by omega);unfold t75_1;simp (disch:=try exact dD _) only [↓reduceIte,↓rK,rP,ed,c1,c2,RU,c3,w3,c4,hz]
  ·exact ((((((BP (by decide)).app d1).app (BP (by decide))).app w1).app (BP (by decide))).app d2).app (BP (by decide))
 ·refine ⟨K1+K2+1,[40]++s1++[32]++w++[32]++s2++[41],σ4,a4,λk hk=>?_,?_,by simp;omega,((f1.trans f2).trans f3).trans f4,by omega⟩
  ·have c1:=c1 k (by omega);have c2:=c2 k (by omega);have c3:=c3 k (by omega);have c4:=c4 k (by omega);unfold t75_1;simp (disch:=try exact dD _) only [↓reduceIte,↓rK,rP,ed,c1,c2,RU,c3,w3,c4,hz]
  ·exact ((((((BP (by decide)).app d1).app (BP (by decide))).app w1).app (BP (by decide))).app d2).app (BP (by decide))
theorem oC {C:Nat->SS.Call} {l:List Int} {q:Nat} (d:Nat) (hd:d<100) (A L:Nat) (hA:A<10000) (hL:L<100000) (N:Nat) (_:N<=900000)
 (ih: ∀ a τ,a<N->Fd τ q l a->∃ (K:Nat) (s:B) (σ:St) (a':Nat),(∀ k,K<=k->C k 75 [.ptr q 0 0,.int .i64 ((d+1:Nat):Int)] τ=some (.str s,σ))/\Bh s/\s.length<=L/\Fed τ σ q l a a'/\a'<=a+A)
 (a:Nat) (ha:a+A<N) (τ:St) (hq:Fd τ q l a) (kd:Int) (hk:kd=10\/kd=11\/kd=12\/kd=13) :
 ∃ (K:Nat) (s:B) (σ:St) (a':Nat),(∀ k,K<=k->t75_1 (C k) k [.ptr q 0 0,.int .i64 (d:Int),.int .i64 kd] τ=some (.ret,[.str s],σ))/\Bh s/\s.length<=2*L+8/\Fed τ σ q l a a'/\a'<=a+2*A+2:=by
 obtain ⟨K1,s1,σ1,a1,c1,d1,e1,f1,g1⟩:=ih a τ (by omega) hq;obtain ⟨K2,s2,σ2,a2,c2,d2,e2,f2,g2⟩:=ih a1 σ1 (by omega) f1.1;have ed:((d:Int)+1)=((d+1:Nat):Int):=by omega
 rcases hk with rfl | rfl | rfl | rfl
 ·refine ⟨K1,[33,40]++s1++[41],σ1,a1,λk hk=>?_,((BP (by decide)).app d1).app (BP (by decide)),by simp;omega,f1,by omega⟩;have c1:=c1 k (by omega);unfold t75_1;simp (disch:=try exact dD _) only [↓reduceIte,↓rK,rP,ed,c1]
 ·refine ⟨K1,[45,40]++s1++[41],σ1,a1,λk hk=>?_,((BP (by decide)).app d1).app (BP (by decide)),by simp;omega,f1,by omega⟩;have c1:=c1 k (by omega);unfold t75_1;simp (disch:=try exact dD _) only [↓reduceIte,↓rK,rP,ed,c1]
 ·refine ⟨K1+K2,s1++[43]++s2,σ2,a2,λk hk=>?_,(d1.app (BP (by decide))).app d2,by simp;omega,f1.trans f2,by omega⟩;have c1:=c1 k (by omega);have c2:=c2 k (by omega);unfold t75_1;simp (disch:=try exact dD _) only [↓reduceIte,↓rK,rP,ed,c1,c2]
 ·refine ⟨K1,[33,33]++s1,σ1,a1,λk hk=>?_,(BP (by decide)).app d1,by simp;omega,f1,by omega⟩;have c1:=c1 k (by omega);unfold t75_1;simp (disch:=try exact dD _) only [↓reduceIte,↓rK,rP,ed,c1]
def bA:Nat->Nat
 | 0=>3
 | r+1=>2*bA r+3
def bL:Nat->Nat
 | 0=>3
 | r+1=>2*bL r+8
theorem RP: ∀ r,r<=4->3<=bA r/\bA r<1000:=by
 intro r hr;have:r=0\/r=1\/r=2\/r=3\/r=4:=by omega
 rcases this with rfl | rfl | rfl | rfl | rfl<;>decide
theorem RQ: ∀ r,r<=4->3<=bL r/\bL r<1000:=by
 intro r hr;have:r=0\/r=1\/r=2\/r=3\/r=4:=by omega
 rcases this with rfl | rfl | rfl | rfl | rfl<;>decide
theorem aP {C:Nat->SS.Call} {l:List Int} {q:Nat} (hC: ∀ k vs σ,C (k+1) 75 vs σ=t75 (C k) k vs σ)
 (hnx: ∀ (a:Nat) (m:Int) τ,a<1000000->0<m->m<1000->Fd τ q l a->∃ (r:Int) (σ:St) (a':Nat),(∀ k,1<=k->C k 73 [.ptr q 0 0,.int .i64 m] τ=some (.int .i64 r,σ))/\0<=r/\r<m/\Fed τ σ q l a a'/\a'<=a+1) :
 ∀ r d:Nat,d+r=4->∀ a τ,a<500000+d*1000->Fd τ q l a->∃ (K:Nat) (s:B) (σ:St) (a':Nat),(∀ k,K<=k->C k 75 [.ptr q 0 0,.int .i64 (d:Int)] τ=some (.str s,σ))/\Bh s/\s.length<=bL r/\Fed τ σ q l a a'/\a'<=a+bA r:=by
 intro r
 induction r with
 | zero =>
  intro d hd a τ ha hq;obtain ⟨x,σ1,a1,c1,x0,x1,f1,g1⟩:=hnx a 20 τ (by omega) (by omega) (by omega) hq;have hb:=f1.1;unfold Fd at hb;obtain ⟨n,rfl⟩: ∃ n:Nat,x=(n:Int):=⟨x.toNat,by omega⟩
  have hr: ∀ K:Int->Res,De (n:Int) 6 K=K ((n % 6:Nat):Int):=λK=>LJ n 6 K (by omega)
  obtain ⟨s,σ2,a2,c2,d2,e2,f2,g2⟩:=UY hnx a1 (by omega) σ1 f1.1 (d:Int) (14+((n % 6:Nat):Int)) (by omega);refine ⟨2,s,σ2,a2,λk hk=>?_,d2,e2,f1.trans f2,by show a2<=a+3;omega⟩;obtain ⟨k,rfl⟩: ∃ k',k=k'+1:=⟨k - 1,by omega⟩
  have c1:=c1 k (by omega);have c2:=c2 k (by omega);have h4:((3:Int)<(d:Int)):=by omega
  rw [hC];unfold t75;simp (disch:=try exact dD _) only [↓reduceIte,↓rK,rP,AL,c1,hb,h4,hr,c2]
 | succ r ih =>
  intro d hd a τ ha hq;obtain ⟨x,σ1,a1,c1,x0,x1,f1,g1⟩:=hnx a 20 τ (by omega) (by omega) (by omega) hq;have hb:=f1.1;unfold Fd at hb;obtain ⟨n,rfl⟩: ∃ n:Nat,x=(n:Int):=⟨x.toNat,by omega⟩
  have hr: ∀ K:Int->Res,De (n:Int) 6 K=K ((n % 6:Nat):Int):=λK=>LJ n 6 K (by omega)
  obtain ⟨hA0,hA1⟩:=RP r (by omega);obtain ⟨hL0,hL1⟩:=RQ r (by omega);have eA:bA (r+1)=2*bA r+3:=rfl;have eL:bL (r+1)=2*bL r+8:=rfl;have h4:¬((3:Int)<(d:Int)):=by omega
  have ih':=ih (d+1) (by omega)
  have fin: ∀ (kd:Int),(∀ k,2<=k->C k 75 [.ptr q 0 0,.int .i64 (d:Int)] τ=Ah (Bv (some (.norm,[.ptr q 0 0,.int .i64 (d:Int),.int .i64 kd],σ1)) (t75_1 (C (k - 1)) (k - 1)))) ->
   (∃ (K:Nat) (s:B) (σ:St) (a':Nat),(∀ k,K<=k->t75_1 (C k) k [.ptr q 0 0,.int .i64 (d:Int),.int .i64 kd] σ1=some (.ret,[.str s],σ))/\Bh s/\s.length<=2*bL r+8/\Fed σ1 σ q l a1 a'/\a'<=a1+2*bA r+2) ->
   ∃ (K:Nat) (s:B) (σ:St) (a':Nat),(∀ k,K<=k->C k 75 [.ptr q 0 0,.int .i64 (d:Int)] τ=some (.str s,σ))/\Bh s/\s.length<=bL (r+1)/\Fed τ σ q l a a'/\a'<=a+bA (r+1):=by
   rintro kd he ⟨K,s,σ,a',h1,h2,h3,h4,h5⟩
   refine ⟨K+2,s,σ,a',λk hk=>?_,h2,by omega,f1.trans h4,by omega⟩;rw [he k (by omega),J4,h1 (k - 1) (by omega)];rfl
  have leaf: ∀ kd:Int,14<=kd->∃ (K:Nat) (s:B) (σ:St) (a':Nat),(∀ k,K<=k->t75_1 (C k) k [.ptr q 0 0,.int .i64 (d:Int),.int .i64 kd] σ1=some (.ret,[.str s],σ))/\Bh s/\s.length<=2*bL r+8/\Fed σ1 σ q l a1 a'/\a'<=a1+2*bA r+2:=by
   intro kd hk;obtain ⟨s,σ2,a2,c2,d2,e2,f2,g2⟩:=UY hnx a1 (by omega) σ1 f1.1 (d:Int) kd hk;exact ⟨1,s,σ2,a2,c2,d2,by omega,f2,by omega⟩
  by_cases h14:(14:Int)<(a1:Int)
  ·refine fin (14+((n % 6:Nat):Int)) (λk hk=>?_) (leaf _ (by omega));obtain ⟨k,rfl⟩: ∃ k',k=k'+1:=⟨k - 1,by omega⟩
   have c1:=c1 k (by omega);rw [hC,Nat.add_sub_cancel];unfold t75;simp (disch:=try exact dD _) only [↓reduceIte,↓rK,rP,c1,hb,h4,h14,hr]
  ·refine fin (n:Int) (λk hk=>?_) ?_
   ·obtain ⟨k,rfl⟩: ∃ k',k=k'+1:=⟨k - 1,by omega⟩
    have c1:=c1 k (by omega);rw [hC,Nat.add_sub_cancel];unfold t75;simp (disch:=try exact dD _) only [↓reduceIte,↓rK,rP,c1,hb,h4,h14]
   ·by_cases hl:(14:Int)<=(n:Int)
    ·exact leaf _ hl
    ·by_cases h10:(n:Int)<10
     ·exact oD hnx d (by omega) (bA r) (bL r) (by omega) (by omega) (500000+(d+1)*1000) (by omega) ih' a1 (by omega) σ1 f1.1 _ h10
     ·exact oC d (by omega) (bA r) (bL r) (by omega) (by omega) (500000+(d+1)*1000) (by omega) ih' a1 (by omega) σ1 f1.1 _ (by omega)
end Go.Proofs.YtglndmmlghpdpaaGreatDoor
namespace SS
open Go
theorem OD (d:Nat) (h:d<10):by8 (UInt8.ofNat (48+d))=48+(d:Int):=by
 have:d=0\/d=1\/d=2\/d=3\/d=4\/d=5\/d=6\/d=7\/d=8\/d=9:=by omega
 rcases this with rfl | rfl | rfl | rfl | rfl | rfl | rfl | rfl | rfl | rfl<;>decide
theorem Oc (d:Nat) (h:d<10):UInt8.ofNat (48+d)≠45/\UInt8.ofNat (48+d)≠32:=by
 have:d=0\/d=1\/d=2\/d=3\/d=4\/d=5\/d=6\/d=7\/d=8\/d=9:=by omega
 rcases this with rfl | rfl | rfl | rfl | rfl | rfl | rfl | rfl | rfl | rfl<;>decide
theorem Me (n:Nat) (hn:n<1000): ∃ ds:List Nat,(∀ d∈ds,d<10)/\ds≠[]/\ds.length<=3/\Bp n=ds.map (λd=>UInt8.ofNat (48+d))/\ds.foldl (λa d=>10*a+d) 0=n:=by
 by_cases h1:n<10
 ·exact ⟨[n],by simpa using h1,by simp,by simp,by unfold Bp;rw [if_pos h1];rfl,by simp⟩
 ·by_cases h2:n<100
  ·refine ⟨[n / 10,n % 10],?_,by simp,by simp,?_,by simp;omega⟩
   ·intro d hd;simp at hd;omega
   ·unfold Bp;rw [if_neg h1];unfold Bp;rw [if_pos (by omega)];rfl
  ·refine ⟨[n / 100,n / 10 % 10,n % 10],?_,by simp,by simp,?_,by simp;omega⟩
   ·intro d hd;simp at hd;omega
   ·unfold Bp;rw [if_neg h1];unfold Bp;rw [if_neg (by omega)];unfold Bp;rw [if_pos (by omega),Nat.div_div_eq_div_mul];rfl
theorem wV (ds:List Nat) (h: ∀ d∈ds,d<10):Dt (ds.map λd=>UInt8.ofNat (48+d))=((ds.foldl (λa d=>10*a+d) 0:Nat):Int):=by
 have key: ∀ (ds:List Nat) (a:Nat),(∀ d∈ds,d<10)->(ds.map λd=>UInt8.ofNat (48+d)).foldl (λn c=>10*n+(by8 c - 48)) (a:Int)=((ds.foldl (λa d=>10*a+d) a:Nat):Int):=by
  intro ds
  induction ds with
  | nil=>intro a _;rfl
  | cons d r ih =>
   intro a h;rw [List.map_cons,List.foldl_cons,List.foldl_cons,OD d (h d (by simp)),<-ih (10*a+d) λx hx=>h x (by simp [hx])]
   congr 1
   omega
 exact key ds 0 h
theorem RC (n:Nat) (hn:n<1000):CG (Bp n)=((n:Int),true):=by
 obtain ⟨ds,h1,h2,h3,h4,h5⟩:=Me n hn;have h6:=wV ds h1;rw [h5] at h6;have hd:(Bp n).all (λc=>B6 (by8 c))=true:=by
  rw [h4,List.all_eq_true];intro c hc;obtain ⟨d,hd,rfl⟩:=List.mem_map.1 hc;have:=h1 d hd;rw [OD d this];unfold B6;simp;omega
 have hl:(Bp n).length=ds.length:=by rw [h4,List.length_map]
 have h0:0<ds.length:=List.length_pos_iff.2 h2;unfold CG;rw [hd,hl,decide_eq_true h3,h4,h6,decide_eq_true h0];rfl
theorem Mf (n:Nat) (hn:n<1000): ∃ c r,Bp n=c :: r/\c≠45/\c≠32/\∀ d∈r,d≠32:=by
 obtain ⟨ds,h1,h2,h3,h4,h5⟩:=Me n hn
 match ds,h2 with
 | d :: r,_ =>
  refine ⟨_,_,h4,(Oc d (h1 d (by simp))).1,(Oc d (h1 d (by simp))).2,λx hx=>?_⟩;obtain ⟨y,hy,rfl⟩:=List.mem_map.1 hx;exact (Oc y (h1 y (by simp [hy]))).2
theorem YW (k:Int) (h1: -999<=k) (h2:k<=999):amount (BK k) true=(k,true):=by
 unfold BK;by_cases h:k<0
 ·rw [if_pos h];obtain ⟨c,r,e,_⟩:=Mf (-k).toNat (by omega);have ha:=RC (-k).toNat (by omega);rw [e] at ha ⊢;show (if true&&decide ((45:UInt8)=45) then (-(CG (c :: r)).1,(CG (c :: r)).2) else CG (45 :: c :: r))=_;rw [ha];simp;omega
 ·rw [if_neg h];obtain ⟨c,r,e,hc,_⟩:=Mf k.toNat (by omega);have ha:=RC k.toNat (by omega);have hk:((k.toNat:Nat):Int)=k:=by omega
  rw [e] at ha ⊢;rw [hk] at ha;cases r with
  | nil=>exact ha
  | cons d r =>
   show (if true&&decide (c=45) then _ else CG (c :: d :: r))=_;rw [decide_eq_false hc];exact ha
theorem Zp (k:Int) (h1: -999<=k) (h2:k<=999): ∀ c∈BK k,c≠32:=by
 unfold BK
 split
 ·obtain ⟨c,r,e,_,hc,hr⟩:=Mf (-k).toNat (by omega);rw [e];intro x hx;simp at hx;rcases hx with rfl | rfl | hx
  ·decide
  ·exact hc
  ·exact hr x hx
 ·obtain ⟨c,r,e,_,hc,hr⟩:=Mf k.toNat (by omega);rw [e];intro x hx;simp at hx;rcases hx with rfl | hx
  ·exact hc
  ·exact hr x hx
theorem WT: ∀ (b:Bool) (s:B),GM b s=true->∀ c∈s,c≠32
 | _,[],_,c,hc=>by simp at hc
 | b,d :: r,h,c,hc=>by
  unfold GM at h;rw [Bool.and_eq_true] at h;rcases List.mem_cons.1 hc with rfl | hc
  ·rintro rfl
   revert h
   cases b<;>simp [CY,B6,by8]
  ·exact WT false r h.2 c hc
theorem kP {s:B} (h:isWord s=true): ∀ c∈s,c≠32:=by
 unfold isWord at h;rw [Bool.and_eq_true] at h;exact WT true s h.1
end SS
namespace Go.Proofs.YtglndmmlghpdpaaGreatDoor
open Go SS
set_option maxRecDepth 100000
structure Spk where
 s:B
 lv:Int
def FY:Ty Spk where
 enc x:=.agg [.str x.s,.int .i64 x.lv]
 inj a b h:=by cases a;cases b;simp_all
 zero a:=rfl
theorem GI:(env.P.info? 180).map (·.size)=some 2:=by kernel_rfl
theorem WF:env.P.underlying 178=some (.slice 180):=by kernel_rfl
def Mw:List B:=[[],[],[],[],[33],[45],[42],[43],[45],[60],[60,61],[62],[62,61],[61,61],[33,61],[38,38],[124,124]]
def FQ (op:Int):B:=(Mw[op.toNat]?).getD []
theorem QF (op:Int):(FQ op).length<=2:=by
 unfold FQ;by_cases h:op.toNat<17
 ·have: ∀ n,n<17->((Mw[n]?).getD []).length<=2:=by decide
  exact this _ h
 ·rw [List.getElem?_eq_none (by show 17<=_;omega)];simp
def FM (t:Ao):B:=if t.op=1 then BK t.n else if t.op=2 then t.name else t.name++[64]++t.loc
def Ga (op:Int):Int:=if strength op=3 then 4 else strength op
def D8 (st:List Spk) (t:Ao):Option (List Spk) :=
 if arity t.op=0 then some (st++[⟨FM t,strength t.op⟩])
 else if arity t.op=1 then
  if h:1<=st.length then some (st.take (st.length - 1)++[⟨FQ t.op++FD st[st.length - 1].s st[st.length - 1].lv (strength t.op),strength t.op⟩]) else none
 else if h:2<=st.length then
  some (st.take (st.length - 2)++[⟨FD st[st.length - 2].s st[st.length - 2].lv (Ga t.op)++FQ t.op++FD st[st.length - 1].s st[st.length - 1].lv (strength t.op+1),strength t.op⟩])
 else none
def GG:List Spk->List Ao->Option (List Spk)
 | st,[]=>some st
 | st,t :: l=>match D8 st t with
  | some st'=>GG st' l
  | none=>none
def D7 (l:List Ao):B:=if Cl l then (match GG [] l with | some (a :: _)=>a.s | _=>[]) else []
def tot (st:List Spk):Nat:=(st.map λx=>x.s.length).sum
theorem NA (a b:List Spk):tot (a++b)=tot a+tot b:=by simp [tot]
theorem Jz (s:B) (a b:Int):(FD s a b).length<=s.length+2:=by
 unfold FD;split<;>simp
theorem V4 (st:List Spk) (m:Nat):tot st=tot (st.take m)+tot (st.drop m):=by
 rw [<-NA,List.take_append_drop]
theorem V1 (st:List Spk) (h:1<=st.length):tot st=tot (st.take (st.length - 1))+st[st.length - 1].s.length:=by
 rw [V4 st (st.length - 1),List.drop_eq_getElem_cons (by omega),show st.length - 1+1=st.length by omega,List.drop_length];simp [tot]
theorem V3 (st:List Spk) (h:2<=st.length):tot st=tot (st.take (st.length - 2))+(st[st.length - 2].s.length+st[st.length - 1].s.length):=by
 have e1:st.length - 2+1=st.length - 1:=by omega
 rw [V4 st (st.length - 2),List.drop_eq_getElem_cons (by omega)];simp only [e1];rw [List.drop_eq_getElem_cons (show st.length - 1<st.length by omega),show st.length - 1+1=st.length by omega,List.drop_length];simp [tot]
theorem UQ: ∀ (l:List Ao) (n k:Int),DU l n=some k->∀ t∈l,t.may=true
 | [],_,_,_,t,ht=>by simp at ht
 | a :: l,n,k,h,t,ht=>by
  have h:(if a.may=true/\arity a.op<=n then DU l (n - arity a.op+1) else none)=some k:=h;split at h
  ·rename_i hc;rcases List.mem_cons.1 ht with rfl | ht
   ·exact hc.1
   ·exact UQ l _ _ h t ht
  ·cases h
theorem UR {l:List Ao} (h:Cl l=true): ∀ t∈l,t.may=true:=by
 unfold Cl at h;rw [Bool.and_eq_true,beq_iff_eq] at h;exact UQ l 0 1 h.1
theorem Ii {s:B} (h:isWord s=true):s.length<=8:=by
 unfold isWord at h;rw [Bool.and_eq_true,Bool.and_eq_true] at h;simpa using h.2.2
theorem Tz {t:Ao} (h:t.may=true) (ha:arity t.op=0):(FM t).length<=20:=by
 unfold arity at ha;unfold Ao.may at h;unfold FM;by_cases h1:t.op=1
 ·rw [if_pos h1] at h ⊢;have h2:0<=t.n/\t.n<=999:=by grind
  have:=IW t.n (by omega) h2.2;omega
 ·rw [if_neg h1] at h ⊢;by_cases h2:t.op=2
  ·rw [if_pos h2] at h ⊢;have:=Ii (s:=t.name) (by grind);omega
  ·rw [if_neg h2] at h ⊢;have h3:t.op=3:=by
    split at ha
    ·omega
    ·split at ha
     ·cases ha
     ·split at ha<;>cases ha
   rw [if_pos h3] at h;have h4:=Ii (s:=t.name) (by grind);have h5:=Ii (s:=t.loc) (by grind);simp;omega
theorem VP {st st':List Spk} {t:Ao} (h:D8 st t=some st') (hm:t.may=true):tot st'<=tot st+20:=by
 unfold D8 at h;have hs:=QF t.op;split at h
 ·rename_i ha;cases h;rw [NA];have:=Tz hm ha;simp [tot];omega
 ·split at h
  ·split at h
   ·rename_i hl;cases h;rw [NA,V1 st hl];have:=Jz st[st.length - 1].s st[st.length - 1].lv (strength t.op);simp [tot];omega
   ·cases h
  ·split at h
   ·rename_i hl;cases h;rw [NA,V3 st hl];have:=Jz st[st.length - 1].s st[st.length - 1].lv (strength t.op+1);have:=Jz st[st.length - 2].s st[st.length - 2].lv (Ga t.op);simp [tot];omega
   ·cases h
theorem VO: ∀ (l:List Ao) (st st':List Spk),(∀ t∈l,t.may=true)->GG st l=some st'->tot st'<=tot st+20*l.length
 | [],st,st',_,h=>by cases h;simp
 | t :: l,st,st',hm,h=>by
  have h:(match D8 st t with | some st'=>GG st' l | none=>none)=some st':=h;split at h
  ·rename_i st2 h2;have h3:=VP h2 (hm t (by simp));have h4:=VO l st2 st' (λt ht=>hm t (by simp [ht])) h;simp only [List.length_cons];omega
  ·cases h
theorem Uw (l:List Ao):(D7 l).length<=100000:=by
 unfold D7
 split
 ·rename_i hr;have hl:l.length<=30:=by
   unfold Cl at hr;rw [Bool.and_eq_true] at hr;simpa using hr.2
  split
  ·rename_i a r h;have:=VO l [] (a :: r) (UR hr) h;simp [tot] at this;omega
  ·simp
 ·simp
def Gh:List V:=Mw.map V.str
theorem sQ:env.P.underlying 76=some (.array 17 9):=by kernel_rfl
theorem Vb {t:Ao} (h:4<=t.op/\t.op<=16): ∃ n:Nat,indexAt env 76 (.ptr 0 0 0) (.int .i64 t.op)=some (.ptr 0 0 n)/\∀ (σ:St) (K:V->Option (AEx×List V×St)),σ.get 0=some (.blk Gh 76 0 false)->ld1 env (.ptr 0 0 n) 0 σ K=K (.str (FQ t.op)):=by
 obtain ⟨n,hn⟩: ∃ n:Nat,t.op=(n:Int):=⟨t.op.toNat,by omega⟩
 refine ⟨n,?_,λσ K hg=>?_⟩
 ·rw [hn,Qm (b:=0) (ver:=0) (off:=0) sQ GJ (n:=n) (by omega)];simp
 ·rw [LH,hg,Qo];have hlt:n<Mw.length:=by show n<17;omega
  have:Gh[n+0]? = some (.str (FQ t.op)):=by
   unfold Gh FQ;rw [hn,Int.toNat_natCast,Nat.add_zero,List.getElem?_map,List.getElem?_eq_getElem hlt];rfl
  rw [this];rfl
def KF (τ:St) (v:V) (st:List Spk) (b:Nat):Prop:=τ.get 0=some (.blk Gh 76 0 false)/\0<τ.n/\Cp τ 180 2 v st.length (rows FY st) b/\b≠0
structure Qy (call:SS.Call):Prop where
 strength: ∀ (n:Int) τ,call 124 [.int .i64 n] τ=some (.int .i64 (strength n),τ)
 arity: ∀ (n:Int) τ,call 103 [.int .i64 n] τ=some (.int .i64 (arity n),τ)
 decimal: ∀ (n:Int) τ,-1000000<=n->n<=1000000->call 66 [.int .i64 n] τ=some (.str (BK n),τ)
 within: ∀ (s:B) (lv Ck:Int) τ,s.length<1000000000->call 125 [.agg [.str s,.int .i64 lv],.int .i64 Ck] τ=some (.str (FD s lv Ck),τ)
theorem Ed {R:Type} {a b:V} (ha:a.one=true) (hb:b.one=true) (K:List V->Option R):agN 2 (.agg [a,b]) K=K [a,b]:=by
 have e: ∀ v:V,v.one=true->V.isOne v=true:=λv h=>by rw [V.zAh];exact h
 unfold agN;show gd (Nat.beq (BN [a,b]) 2) (gd (Ey V.isOne [a,b]) (K [a,b]))=_;have h1:BN [a,b]=2:=by rw [CB];rfl
 rw [h1];have h2:Ey V.isOne [a,b]=true:=by
  unfold Ey;simp only [e a ha,e b hb]
 rw [h2];rfl
theorem Spk.zAc (x:Spk):FY.enc x=.agg [.str x.s,.int .i64 x.lv]:=rfl
theorem RL (n:Int):(arity n=0/\1<=n/\n<=3)\/(arity n=1/\4<=n/\n<=5)\/(arity n=2/\6<=n/\n<=16)\/arity n=-1:=by
 unfold arity
 split
 ·exact .inl ⟨rfl,by omega,by omega⟩
 ·split
  ·exact .inr (.inl ⟨rfl,by omega,by omega⟩)
  ·split
   ·exact .inr (.inr (.inl ⟨rfl,by omega,by omega⟩))
   ·exact .inr (.inr (.inr rfl))
theorem UO {t:Ao} (h:t.may=true):arity t.op≠-1:=by
 intro ha;unfold Ao.may at h;unfold arity at ha h
 grind
set_option maxHeartbeats 16000000 in
theorem qD {call:SS.Call} (h:Qy call) {k:Nat} (l:List Ao) (hs:Ci l) (i:Nat) (hi:i<l.length) (hm:l[i].may=true) (v:V) (st:List Spk) (b:Nat) (τ:St) (hI:KF τ v st b) (hst:st.length<=1000) (htot:tot st<=1000000) :
 (∃ st' v' b' σ,D8 st l[i]=some st'/\t101_3 call k [(AA Al).enc l,v,.ptr 0 0 0,.int .i64 (i:Int)] τ=some (.norm,[(AA Al).enc l,v',.ptr 0 0 0,.int .i64 ((i+1:Nat):Int)],σ)/\KF σ v' st' b'/\st'.length<=st.length+1) \/
 (∃ σ,D8 st l[i]=none/\t101_3 call k [(AA Al).enc l,v,.ptr 0 0 0,.int .i64 (i:Int)] τ=some (.ret,[.str []],σ)):=by
 obtain ⟨hg,hn,hL,hb0⟩:=hI;have hlen:=hs.1;have h1:=h.strength;have h2:=h.arity;have h3:=h.decimal;have h4:=h.within
 obtain ⟨b1,hL1,hb1⟩:=mY 5 hL;have far: ∀ (x:B) c,c<τ.n->((((τ.new (.blk [.int .i64 0,.int .i64 0,.str [],.str []] 122 0 false)).put τ.n (.blk [.int .i64 l[i].op,.int .i64 l[i].n,.str l[i].name,.str l[i].loc] 122 0 false)).new (.blk [.str [],.int .i64 0] 180 0 false)).put (τ.n+1) (.blk [.str [],.int .i64 (strength l[i].op)] 180 0 false)).get c=τ.get c:=λx c hc=>by
  simp (disch:=omega) only [St.zAg,St.zAe,A9,Aa,if_neg]
 have hsaid: ∀ x:B,((((τ.new (.blk [.int .i64 0,.int .i64 0,.str [],.str []] 122 0 false)).put τ.n (.blk [.int .i64 l[i].op,.int .i64 l[i].n,.str l[i].name,.str l[i].loc] 122 0 false)).new (.blk [.str [],.int .i64 0] 180 0 false)).put (τ.n+1) (.blk [.str [],.int .i64 (strength l[i].op)] 180 0 false)).n=τ.n+2:=λx=>rfl
 generalize hS2:(((τ.new (.blk [.int .i64 0,.int .i64 0,.str [],.str []] 122 0 false)).put τ.n (.blk [.int .i64 l[i].op,.int .i64 l[i].n,.str l[i].name,.str l[i].loc] 122 0 false)).new (.blk [.str [],.int .i64 0] 180 0 false)).put (τ.n+1) (.blk [.str [],.int .i64 (strength l[i].op)] 180 0 false)=S2 at far hsaid;have far:=far [];have hsaid:=hsaid [];have g0:S2.get 0=some (.blk Gh 76 0 false):=by rw [far 0 hn];exact hg
 have gT:S2.get τ.n=some (.blk [.int .i64 l[i].op,.int .i64 l[i].n,.str l[i].name,.str l[i].loc] 122 0 false):=by
  rw [<-hS2];simp (disch:=omega) only [St.zAg,St.zAe,A9,Aa,if_neg,if_true,eq_self]
 have gS:S2.get (τ.n+1)=some (.blk [.str [],.int .i64 (strength l[i].op)] 180 0 false):=by
  rw [<-hS2];simp (disch:=omega) only [St.zAg,St.zAe,A9,Aa,if_neg,if_true,eq_self]
 have hL2:Cp S2 180 2 v st.length (rows FY st) b1:=hL1.of (λhc=>far _ (by omega)) (by omega);have hln: ∀ K:Int->Option (AEx×List V×St),lnK v K=K (st.length:Int):=λK=>hL.len K
 generalize hw:t101_3 call k [(AA Al).enc l,v,.ptr 0 0 0,.int .i64 (i:Int)] τ=w;unfold t101_3 at hw;have add: ∀ (x:B) (v2:V) (st2:List Spk) (b2:Nat),b2=b1->Cp (S2.put (τ.n+1) (.blk [.str x,.int .i64 (strength l[i].op)] 180 0 false)) 180 2 v2 st2.length (rows FY st2) b2->st2.length<=1000->∃ v' b' σ,(∀ K:V->St->Option (AEx×List V×St),BQ 180 2 1 [.str x,.int .i64 (strength l[i].op)] v2 (S2.put (τ.n+1) (.blk [.str x,.int .i64 (strength l[i].op)] 180 0 false)) K=K v' σ)/\KF σ v' (st2++[⟨x,strength l[i].op⟩]) b':=by
  intro x v2 st2 b2 hb2 hL4 hl3;obtain ⟨v',b',σ,a1,a2,a3,a4,a5,a6⟩:=mX (new:=(FY.enc ⟨x,strength l[i].op⟩).cells) hL4 (by omega) rfl (by decide) rfl;rw [A9] at a3 a4 a5;refine ⟨v',b',σ,λK=>a1 K,?_,by omega,?_,by omega⟩
  ·rw [a4 0 (by omega) (by omega),St.zAg,if_neg (by omega)];exact g0
  ·rw [DI,List.length_append];exact a2
 have hL3: ∀ x,Cp (S2.put (τ.n+1) (.blk [.str x,.int .i64 (strength l[i].op)] 180 0 false)) 180 2 v st.length (rows FY st) b1:=λx=>hL2.of (λhc=>by rw [St.zAg,if_neg (by omega)]) (Nat.le_refl _)
 rcases RL l[i].op with ⟨ha,ho1,ho2⟩ | ⟨ha,ho1,ho2⟩ | ⟨ha,ho1,ho2⟩ | ha
 ·
  have hleaf:=Tz hm ha;obtain ⟨v',b',σ,a1,a2⟩:=add (FM l[i]) v st b1 rfl (hL3 _) hst;have hsay:D8 st l[i]=some (st++[⟨FM l[i],strength l[i].op⟩]):=by unfold D8;rw [if_pos ha]
  refine .inl ⟨_,v',b',σ,hsay,?_,a2,by simp⟩;have hn1:l[i].op=1->0<=l[i].n/\l[i].n<=999:=by intro e;unfold Ao.may at hm;grind
  have hw2:=hs.2 _ (List.getElem_mem hi);unfold t101_0 t101_2 at hw;by_cases e1:l[i].op=1
  ·have hlf:FM l[i]=BK l[i].n:=by unfold FM;rw [if_pos e1]
   rw [hlf] at a1;have hd:=h3 l[i].n S2 (by have:=hn1 e1;omega) (by have:=hn1 e1;omega);have e1':=eq_true e1;simp (disch:=try exact dD _) only [↓reduceIte,↓rK,rP,Nat.reduceAdd,Ay Cv,Ay GI,h1,h2,↓BA,BA,hln,ha,hS2,gT,gS,Ed,↓Ed,e1',hd,a1] at hw;rw [<-hw];rfl
  ·have e1':=eq_false e1;by_cases e2:l[i].op=2
   ·have e2':=eq_true e2;have hlf:FM l[i]=l[i].name:=by unfold FM;rw [if_neg e1,if_pos e2]
    rw [hlf] at a1;simp (disch:=try exact dD _) only [↓reduceIte,↓rK,rP,Nat.reduceAdd,Ay Cv,Ay GI,h1,h2,↓BA,BA,hln,ha,hS2,gT,gS,Ed,↓Ed,e1',e2',a1] at hw;rw [<-hw];rfl
   ·have e2':=eq_false e2;have hlf:FM l[i]=l[i].name++[64]++l[i].loc:=by unfold FM;rw [if_neg e1,if_neg e2]
    rw [hlf] at a1;simp (disch:=try exact dD _) only [↓reduceIte,↓rK,rP,Nat.reduceAdd,Ay Cv,Ay GI,h1,h2,↓BA,BA,hln,ha,hS2,gT,gS,Ed,↓Ed,e1',e2',a1] at hw;rw [<-hw];rfl
 ·
  have ha0:¬arity l[i].op=0:=by omega
  have hsg:=QF l[i].op;obtain ⟨sn,hix,hsd⟩:=Vb (t:=l[i]) ⟨by omega,by omega⟩;have hsd2: ∀ K:V->Option (AEx×List V×St),ldG (S2.get 0) 0 (sn+0) K=K (.str (FQ l[i].op)):=λK=>(LH 0 0 sn 0 K).symm.trans (hsd S2 K g0)
  by_cases hl1:1<=st.length
  ·have hlt:¬((st.length:Int)<1):=by omega
   have e1:(st.length:Int) - 1=((st.length - 1:Nat):Int):=by omega
   have htc:=V1 st hl1;have hwl:=Jz st[st.length - 1].s st[st.length - 1].lv (strength l[i].op);have hld:=λ(K:V->Option (AEx×List V×St))=>hL2.ldT (t:=FY) (λ_=>rfl) (n:=st.length - 1) (by omega) rfl K
   rw [Spk.zAc] at hld;have hwi:=h4 st[st.length - 1].s st[st.length - 1].lv (strength l[i].op) S2 (by omega);generalize hX:FQ l[i].op++FD st[st.length - 1].s st[st.length - 1].lv (strength l[i].op)=X;obtain ⟨v2,c1,c2⟩:=UG (E:=env) (t:=178) (m:=st.length - 1) (hL3 X) WF GI (by decide) (by omega) (by omega);rw [VJ (λ_=>rfl) st _ (by omega)] at c2;have hlen2:(st.take (st.length - 1)).length=st.length - 1:=by rw [List.length_take];omega
   obtain ⟨v',b',σ,a1,a2⟩:=add X v2 (st.take (st.length - 1)) b1 rfl (by rw [hlen2];exact c2) (by omega);have hsay:D8 st l[i]=some (st.take (st.length - 1)++[⟨X,strength l[i].op⟩]):=by unfold D8;rw [if_neg ha0,if_pos ha,dif_pos hl1,hX]
   refine .inl ⟨_,v',b',σ,hsay,?_,a2,by rw [List.length_append,hlen2];simp;try omega⟩;unfold t101_2 at hw;simp (disch:=try exact dD _) only [↓reduceIte,↓rK,rP,Nat.reduceAdd,Ay Cv,Ay GI,h1,h2,↓BA,BA,hln,ha,hS2,gT,gS,Ed,↓Ed,hlt,hix,hsd2,e1,hld,hwi,hX,c1,a1] at hw;rw [<-hw];rfl
  ·have hlt:(st.length:Int)<1:=by omega
   have hsay:D8 st l[i]=none:=by unfold D8;rw [if_neg ha0,if_pos ha,dif_neg hl1]
   simp (disch:=try exact dD _) only [↓reduceIte,↓rK,rP,Nat.reduceAdd,Ay Cv,Ay GI,h1,h2,↓BA,BA,hln,ha,hS2,gT,gS,Ed,↓Ed,hlt] at hw;exact .inr ⟨_,hsay,hw.symm⟩
 ·
  have ha0:¬arity l[i].op=0:=by omega
  have ha1:¬arity l[i].op=1:=by omega
  have hsg:=QF l[i].op;obtain ⟨sn,hix,hsd⟩:=Vb (t:=l[i]) ⟨by omega,by omega⟩;have hsd2: ∀ K:V->Option (AEx×List V×St),ldG (S2.get 0) 0 (sn+0) K=K (.str (FQ l[i].op)):=λK=>(LH 0 0 sn 0 K).symm.trans (hsd S2 K g0)
  by_cases hl1:2<=st.length
  ·have hlt:¬((st.length:Int)<2):=by omega
   have e1:(st.length:Int) - 1=((st.length - 1:Nat):Int):=by omega
   have e2:(st.length:Int) - 2=((st.length - 2:Nat):Int):=by omega
   have htc:=V3 st hl1;have hwl:=Jz st[st.length - 1].s st[st.length - 1].lv (strength l[i].op+1);have hwl2:=Jz st[st.length - 2].s st[st.length - 2].lv (Ga l[i].op);have hld:=λ(K:V->Option (AEx×List V×St))=>hL2.ldT (t:=FY) (λ_=>rfl) (n:=st.length - 1) (by omega) rfl K
   have hld2:=λ(K:V->Option (AEx×List V×St))=>hL2.ldT (t:=FY) (λ_=>rfl) (n:=st.length - 2) (by omega) rfl K
   rw [Spk.zAc] at hld hld2;have hwi:=h4 st[st.length - 1].s st[st.length - 1].lv (strength l[i].op+1) S2 (by omega);have hwi2:=h4 st[st.length - 2].s st[st.length - 2].lv (Ga l[i].op) S2 (by omega);generalize hX:FD st[st.length - 2].s st[st.length - 2].lv (Ga l[i].op)++FQ l[i].op++FD st[st.length - 1].s st[st.length - 1].lv (strength l[i].op+1)=X;obtain ⟨v2,c1,c2⟩:=UG (E:=env) (t:=178) (m:=st.length - 2) (hL3 X) WF GI (by decide) (by omega) (by omega);rw [VJ (λ_=>rfl) st _ (by omega)] at c2;have hlen2:(st.take (st.length - 2)).length=st.length - 2:=by rw [List.length_take];omega
   obtain ⟨v',b',σ,a1,a2⟩:=add X v2 (st.take (st.length - 2)) b1 rfl (by rw [hlen2];exact c2) (by omega);have hsay:D8 st l[i]=some (st.take (st.length - 2)++[⟨X,strength l[i].op⟩]):=by unfold D8;rw [if_neg ha0,if_neg ha1,dif_pos hl1,hX]
   refine .inl ⟨_,v',b',σ,hsay,?_,a2,by rw [List.length_append,hlen2];simp;try omega⟩;have hstr: -100<=strength l[i].op/\strength l[i].op<=100:=by unfold strength;grind
   unfold t101_2 t101_1 at hw;by_cases h3':strength l[i].op=3
   ·have hlf:Ga l[i].op=4:=by unfold Ga;rw [if_pos h3']
    rw [hlf] at hwi2 hX hwl2;have h3t:=eq_true h3';simp (disch:=try exact dD _) only [↓reduceIte,↓rK,rP,Nat.reduceAdd,Ay Cv,Ay GI,h1,h2,↓BA,BA,hln,ha,hS2,gT,gS,Ed,↓Ed,↓NW,NW,hlt,hix,hsd2,e1,e2,hld,hld2,hwi,hwi2,hX,c1,a1,h3t] at hw;rw [<-hw];rfl
   ·have hlf:Ga l[i].op=strength l[i].op:=by unfold Ga;rw [if_neg h3']
    rw [hlf] at hwi2 hX hwl2;have h3t:=eq_false h3';simp (disch:=try exact dD _) only [↓reduceIte,↓rK,rP,Nat.reduceAdd,Ay Cv,Ay GI,h1,h2,↓BA,BA,hln,ha,hS2,gT,gS,Ed,↓Ed,↓NW,NW,hlt,hix,hsd2,e1,e2,hld,hld2,hwi,hwi2,hX,c1,a1,h3t] at hw;rw [<-hw];rfl
  ·have hlt:(st.length:Int)<2:=by omega
   have hsay:D8 st l[i]=none:=by unfold D8;rw [if_neg ha0,if_neg ha1,dif_neg hl1]
   simp (disch:=try exact dD _) only [↓reduceIte,↓rK,rP,Ay Cv,Ay GI,h1,h2,↓BA,BA,hln,ha,hS2,gT,hlt] at hw;exact .inr ⟨_,hsay,hw.symm⟩
 ·exact absurd ha (UO hm)
theorem sS:CD env 76 [(0,(V.str [])),(1,(V.str [])),(2,(V.str [])),(3,(V.str [])),(4,(V.str [33])),(5,(V.str [45])),(6,(V.str [42])),(7,(V.str [43])),(8,(V.str [45])),(9,(V.str [60])),(10,(V.str [60,61])),(11,(V.str [62])),(12,(V.str [62,61])),(13,(V.str [61,61])),(14,(V.str [33,61])),(15,(V.str [38,38])),(16,(V.str [124,124]))]=some (.agg Gh):=by kernel_rfl
theorem vB:(env.P.info? 76).map (·.size)=some 17:=by kernel_rfl
theorem sU:storeAt env 76 (.ptr 0 0 0) (.agg Gh) (St.empty.new (.blk [.str [],.str [],.str [],.str [],.str [],.str [],.str [],.str [],.str [],.str [],.str [],.str [],.str [],.str [],.str [],.str [],.str []] 76 0 false))=some ((St.empty.new (.blk [.str [],.str [],.str [],.str [],.str [],.str [],.str [],.str [],.str [],.str [],.str [],.str [],.str [],.str [],.str [],.str [],.str []] 76 0 false)).put 0 (.blk Gh 76 0 false)):=Ay vB rfl rfl rfl rfl
theorem qE {call:SS.Call} (h:Qy call) (h0: ∀ (l:List Ao) τ,Ci l->call 77 [(AA Al).enc l] τ=some (.bool (Cl l),τ)) {k:Nat} (l:List Ao) (hs:Ci l) (hk:l.length<k) :
 ∃ σ,t101 call k [(AA Al).enc l] .empty=some (.str (D7 l),σ):=by
 cases hr:Cl l with
 | false =>
  have hp:D7 l=[]:=by unfold D7;rw [hr];rfl
  have h0':=h0 l .empty hs;rw [hr] at h0';refine ⟨.empty,?_⟩;unfold t101;simp (disch:=try exact dD _) only [↓reduceIte,↓rK,rP,AL,h0',hp]
 | true =>
  have h0':=h0 l .empty hs;rw [hr] at h0';have hmay:=UR hr;have hl30:l.length<=30:=by
   unfold Cl at hr;rw [Bool.and_eq_true] at hr;simpa using hr.2
  obtain ⟨e,vs',σ,g1,g2,g3⟩:=Bl (P:=t101_3 call k) (Inv:=λr vs τ=>∃ (i:Nat) (v:V) (st:List Spk) (b:Nat),r+i=l.length/\vs=[(AA Al).enc l,v,.ptr 0 0 0,.int .i64 (i:Int)]/\KF τ v st b/\st.length<=i/\tot st<=20*i/\GG st (l.drop i)=GG [] l)
   (Q:=λy=>(y.1=.exit 0/\∃ v st b,y.2.1=[v]/\KF y.2.2 v st b/\st.length<=30/\GG [] l=some st)\/(y.1=.ret/\y.2.1=[.str []]/\GG [] l=none))
   (by
     rintro r vs τ ⟨i,v,st,b,hr',rfl,hI,hsl,hst,hsay⟩
     by_cases hi:i<l.length
     ·have hm:=hmay _ (List.getElem_mem hi);rw [List.drop_eq_getElem_cons hi] at hsay;have hsay:(match D8 st l[i] with | some st'=>GG st' (l.drop (i+1)) | none=>none)=GG [] l:=hsay;rcases qD h l hs i hi hm v st b τ hI (by omega) (by omega) with ⟨st',v',b',σ,s1,s2,s3,s4⟩ | ⟨σ,s1,s2⟩
      ·rw [s1] at hsay;have:=VP s1 hm;exact .inl ⟨r - 1,_,σ,by omega,s2,i+1,v',st',b',by omega,rfl,s3,by omega,by omega,hsay⟩
      ·rw [s1] at hsay;exact .inr ⟨_,_,σ,s2,(by intro h;cases h),.inr ⟨rfl,rfl,hsay.symm⟩⟩
     ·have he:i=l.length:=by omega
      subst he;rw [List.drop_length] at hsay;refine .inr ⟨.exit 0,[v],τ,?_,(by intro h;cases h),.inl ⟨rfl,v,st,b,rfl,hI,by omega,hsay.symm⟩⟩;unfold t101_3;simp (disch:=try exact dD _) only [↓reduceIte,↓rK,rP])
   l.length k [(AA Al).enc l,.nilS,.ptr 0 0 0,.int .i64 0] ((St.empty.new (.blk [.str [],.str [],.str [],.str [],.str [],.str [],.str [],.str [],.str [],.str [],.str [],.str [],.str [],.str [],.str [],.str [],.str []] 76 0 false)).put 0 (.blk Gh 76 0 false)) hk
   ⟨0,.nilS,[],1,by omega,rfl,⟨by rw [St.zAg,if_pos rfl],by decide,mZ _ _ _ _,by decide⟩,by simp,by simp [tot],by simp⟩
  generalize hw:t101 call k [(AA Al).enc l] .empty=w;unfold t101 at hw;simp (disch:=try exact dD _) only [↓reduceIte,↓rK,rP,h0',sS,sU,g1] at hw;rcases g3 with ⟨q1,v,st,b,q2,q3,q4,q5⟩ | ⟨q1,q2,q3⟩
  ·simp only at q1 q2 q3;subst q1 q2;unfold t101_4 at hw;obtain ⟨_,_,hL,_⟩:=q3;have hln: ∀ K:Int->Option (AEx×List V×St),lnK v K=K (st.length:Int):=λK=>hL.len K
   match st,q5,q4,hL,hln with
   | [],q5,_,hL,hln =>
    have hp:D7 l=[]:=by unfold D7;rw [hr,q5];rfl
    have hz:(([]:List Spk).length:Int)=0:=rfl;simp (disch:=try exact dD _) only [↓reduceIte,↓rK,rP,AL,hln] at hw;rw [hp];exact ⟨_,hw.symm⟩
   | a :: r,q5,q4,hL,hln =>
    have hp:D7 l=a.s:=by unfold D7;rw [hr,q5];rfl
    have hne:¬(((a :: r).length:Int)=0):=by rw [List.length_cons];omega
    have hld:=λ(K:V->Option (AEx×List V×St))=>hL.ldT1 (t:=FY) (λ_=>rfl) (n:=0) (off:=0) (x:=.str a.s) (by simp) (by decide) rfl rfl K
    rw [show ((0:Nat):Int)=0 from rfl] at hld;generalize ((a :: r).length:Int)=N at *;simp (disch:=try exact dD _) only [↓reduceIte,↓rK,rP,AL,hln,hne,hld] at hw;rw [hp];exact ⟨_,hw.symm⟩
  ·simp only at q1 q2;subst q1 q2;have hp:D7 l=[]:=by unfold D7;rw [hr,q3];rfl
   simp (disch:=try exact dD _) only [↓rK,rP,AL] at hw;rw [hp];exact ⟨_,hw.symm⟩
theorem JU {α:Type} {t:Ty α} {dp n:Nat} {ty:TypeId} {sz:Nat} {τ:St} {v:V} {xs:List α} {b:Nat} {d:TypeDesc} (hi:(env.P.info? ty).map (·.size)=some sz) (hd:env.P.underlying ty=some d) (h0:0<sz)
 (hs: ∀ x,(t.enc x).cells.length=sz) (hp: ∀ x,Dz d sz 1 (t.enc x).cells=some [t.enc x]) (hsh:EC t dp) (hn:dp<=n) (h:Lst τ ty sz v xs.length (rows t xs) b):frz env τ (n+1) v=some ((AA t).enc xs):=by
 obtain ⟨i,h1,h2⟩:=Option.map_eq_some_iff.1 hi;exact UH h h1 hd h2 h0 hs hp hsh hn
theorem Zn: ∃ fs,env.P.underlying 62=some (.struct fs):=by
 have:(match env.P.underlying 62 with | some (.struct _)=>true | _=>false)=true:=by kernel_rfl
 split at this
 ·rename_i fs e;exact ⟨fs,e⟩
 ·cases this
theorem Zk: ∃ fs,env.P.underlying 122=some (.struct fs):=by
 have:(match env.P.underlying 122 with | some (.struct _)=>true | _=>false)=true:=by kernel_rfl
 split at this
 ·rename_i fs e;exact ⟨fs,e⟩
 ·cases this
theorem Zl: ∃ fs,env.P.underlying 146=some (.struct fs):=by
 have:(match env.P.underlying 146 with | some (.struct _)=>true | _=>false)=true:=by kernel_rfl
 split at this
 ·rename_i fs e;exact ⟨fs,e⟩
 ·cases this
theorem Zh: ∃ fs,env.P.underlying 100=some (.struct fs):=by
 have:(match env.P.underlying 100 with | some (.struct _)=>true | _=>false)=true:=by kernel_rfl
 split at this
 ·rename_i fs e;exact ⟨fs,e⟩
 ·cases this
theorem Zm: ∃ fs,env.P.underlying 70=some (.struct fs):=by
 have:(match env.P.underlying 70 with | some (.struct _)=>true | _=>false)=true:=by kernel_rfl
 split at this
 ·rename_i fs e;exact ⟨fs,e⟩
 ·cases this
theorem Zj: ∃ fs,env.P.underlying 43=some (.struct fs):=by
 have:(match env.P.underlying 43 with | some (.struct _)=>true | _=>false)=true:=by kernel_rfl
 split at this
 ·rename_i fs e;exact ⟨fs,e⟩
 ·cases this
theorem M9:(env.P.info? 100).map (·.size)=some 2:=by kernel_rfl
theorem u6:(env.P.info? 3).map (·.size)=some 1:=by kernel_rfl
theorem Zi:env.P.underlying 3=some (.int .i64):=by kernel_rfl
theorem cB {τ:St} {v:V} {xs:List Var} {b n:Nat} (hn:2<=n) (h:Lst τ 62 4 v xs.length (rows Az xs) b):frz env τ (n+1) v=some ((AA Az).enc xs):=by
 obtain ⟨fs,hd⟩:=Zn;exact JU FW hd (by decide) (λ_=>rfl) (λ_=>rfl) sO hn h
theorem bX {τ:St} {v:V} {xs:List Ao} {b n:Nat} (hn:2<=n) (h:Lst τ 122 4 v xs.length (rows Al xs) b):frz env τ (n+1) v=some ((AA Al).enc xs):=by
 obtain ⟨fs,hd⟩:=Zk;exact JU Cv hd (by decide) (λ_=>rfl) (λ_=>rfl) QE hn h
theorem bY {τ:St} {v:V} {xs:List BZ} {b n:Nat} (hn:2<=n) (h:Lst τ 146 4 v xs.length (rows BJ xs) b):frz env τ (n+1) v=some ((AA BJ).enc xs):=by
 obtain ⟨fs,hd⟩:=Zl;exact JU FU hd (by decide) (λ_=>rfl) (λ_=>rfl) sM hn h
theorem bU {τ:St} {v:V} {xs:List Eff} {b n:Nat} (hn:4<=n) (h:Lst τ 100 2 v xs.length (rows Bg xs) b):frz env τ (n+1) v=some ((AA Bg).enc xs):=by
 obtain ⟨fs,hd⟩:=Zh;exact JU M9 hd (by decide) (λ_=>rfl) (λ_=>rfl) VX hn h
theorem bZ {τ:St} {v:V} {xs:List Br} {b n:Nat} (hn:6<=n) (h:Lst τ 70 7 v xs.length (rows BF xs) b):frz env τ (n+1) v=some ((AA BF).enc xs):=by
 obtain ⟨fs,hd⟩:=Zm;exact JU FV hd (by decide) (λ_=>rfl) (λ_=>rfl) sN hn h
theorem En {τ:St} {v:V} {xs:List Int} {b n:Nat} (hn:1<=n) (h:Lst τ 3 1 v xs.length (rows AJ xs) b):frz env τ (n+1) v=some ((AA AJ).enc xs) :=
 JU u6 Zi (by decide) (λ_=>rfl) (λ_=>rfl) VY hn h
def Hl (p:Bi):List V:=[.str p.name,.lst (p.locs.map V.str) false]
theorem bV {τ:St} {n:Nat} (l:List B):frz env τ (n+2) (.lst (l.map V.str) false)=some ((AA AC).enc l):=by
 match l with
 | []=>rfl
 | a :: r=>exact O8 (t:=AA AC) (d:=2) VZ.list (by omega) (a :: r)
theorem bW {τ:St} {v:V} {xs:List Bi} {b n:Nat} (hn:3<=n) (h:Lst τ 43 2 v xs.length (xs.flatMap Hl) b):frz env τ (n+1) v=some ((AA BH).enc xs):=by
 obtain ⟨fs,hd⟩:=Zj;obtain ⟨i,h1,h2⟩:=Option.map_eq_some_iff.1 EO;obtain ⟨n,rfl⟩: ∃ m,n=m+3:=⟨n - 3,by omega⟩
 refine nA h h1 hd h2 (by decide) (λ_=>rfl) λp=>⟨.agg (Hl p),rfl,?_⟩
 show (match [V.str p.name,.lst (p.locs.map V.str) false].mapM (frz env τ (n+2)) with | some ys=>some (V.agg ys) | none=>none)=_;rw [List.mapM_cons,List.mapM_cons,List.mapM_nil,bV];rfl
theorem Il {σ:St} {ty:TypeId} {sz:Nat} {v:V} {l:Nat} {cs:List V} {b:Nat} (h:Lst σ ty sz v l cs b):v.kind=1\/v.kind=2:=by
 rcases h with ⟨rfl,_⟩ | ⟨_,rfl,_⟩
 ·exact .inl rfl
 ·exact .inr rfl
theorem TP {τ:St} {a b c:V} {vs:List Var} {ps:List Bi} {ts:List Br} {i j l n:Nat} (hn:8<=n) (h1:Lst τ 62 4 a vs.length (rows Az vs) i) (h2:Lst τ 43 2 b ps.length (ps.flatMap Hl) j) (h3:Lst τ 70 7 c ts.length (rows BF ts) l) :
 frz env τ (n+1) (.agg [a,b,c])=some (AP.enc ⟨vs,ps,ts⟩):=by
 obtain ⟨n,rfl⟩: ∃ m,n=m+8:=⟨n - 8,by omega⟩
 show (match [a,b,c].mapM (frz env τ (n+7+1)) with | some ys=>some (V.agg ys) | none=>none)=_;rw [List.mapM_cons,List.mapM_cons,List.mapM_cons,List.mapM_nil,cB (by omega) h1,bW (by omega) h2,bZ (by omega) h3];rfl
theorem bQ {τ:St} {v u:V} (hk:v.kind≠0) (h:frz env τ 64 v=some u):Bd env τ [v]=some [u]:=by
 show (match (bif Nat.beq v.kind 0 then some v else frz env τ D4 v),Bd env τ [] with | some x,some xs=>some (x :: xs) | _,_=>none)=_;have:Nat.beq v.kind 0=false:=by rw [Gd];exact decide_eq_false hk
 rw [this];show (match frz env τ 64 v,_ with | some x,some xs=>some (x :: xs) | _,_=>none)=_;rw [h];rfl
theorem Jv:(env.P.info? 30).map (·.size)=some 3:=by kernel_rfl
structure PM (τ:St) (xv xp xt:V) (vs:List Var) (ps:List Bi) (ts:List Br):Prop where
 z:τ.get 0=some (.blk [.nilS,.nilS,.nilS] 30 0 false)
 m:τ.get 1=some (.blk [xv,xp,xt] 30 0 false)
 n:2<=τ.n
 ls: ∃ bv bp bt,Lst τ 62 4 xv vs.length (rows Az vs) bv/\Lst τ 43 2 xp ps.length (ps.flatMap Hl) bp/\Lst τ 70 7 xt ts.length (rows BF ts) bt/\2<=bv/\2<=bp/\2<=bt/\bv≠bp/\bv≠bt/\bp≠bt
theorem PM.far {τ:St} {xv xp xt:V} {vs:List Var} {ps:List Bi} {ts:List Br} (h:PM τ xv xp xt vs ps ts): ∃ bv bp bt,Lst τ 62 4 xv vs.length (rows Az vs) bv/\Lst τ 43 2 xp ps.length (ps.flatMap Hl) bp/\Lst τ 70 7 xt ts.length (rows BF ts) bt/\2<=bv/\2<=bp/\2<=bt/\bv≠bp/\bv≠bt/\bp≠bt/\(bv<τ.n\/bv=τ.n+5)/\(bp<τ.n\/bp=τ.n+6)/\(bt<τ.n\/bt=τ.n+7):=by
 obtain ⟨bv,bp,bt,h1,h2,h3,d1,d2,d3,d4,d5,d6⟩:=h.ls;obtain ⟨cv,e1,f1⟩:=EI 5 h1;obtain ⟨cp,e2,f2⟩:=EI 6 h2;obtain ⟨ct,e3,f3⟩:=EI 7 h3;have hn:=h.n;exact ⟨cv,cp,ct,e1,e2,e3,by omega,by omega,by omega,by omega,by omega,by omega,by omega,by omega,by omega⟩
theorem PM.of {τ τ':St} {xv xp xt:V} {vs:List Var} {ps:List Bi} {ts:List Br} (h:PM τ xv xp xt vs ps ts) (hg: ∀ c,c<τ.n->τ'.get c=τ.get c) (hn:τ.n<=τ'.n):PM τ' xv xp xt vs ps ts:=by
 obtain ⟨bv,bp,bt,h1,h2,h3,d⟩:=h.ls;have hn2:=h.n;exact ⟨by rw [hg 0 (by omega)];exact h.z,by rw [hg 1 (by omega)];exact h.m,by omega,bv,bp,bt,h1.of (λhc=>hg _ hc) hn,h2.of (λhc=>hg _ hc) hn,h3.of (λhc=>hg _ hc) hn,d⟩
theorem PM.var {τ:St} {xv xp xt:V} {vs:List Var} {ps:List Bi} {ts:List Br} (h:PM τ xv xp xt vs ps ts) (hl:vs.length<1000000) (v:Var) :
 ∃ x' σ',(∀ K:V->St->Option (AEx×List V×St),BQ 62 4 1 [.str v.name,.int .i64 v.low,.int .i64 v.high,.int .i64 v.init] xv τ K=K x' σ')/\σ'.get 1=some (.blk [xv,xp,xt] 30 0 false)/\x'.one=true/\PM (σ'.put 1 (.blk [x',xp,xt] 30 0 false)) x' xp xt (vs++[v]) ps ts:=by
 obtain ⟨bv,bp,bt,h1,h2,h3,d1,d2,d3,d4,d5,d6,f1,f2,f3⟩:=h.far;have hn:=h.n;obtain ⟨x',b',σ',a1,a2,a3,a4,a5,a6⟩:=DQ (new:=(Az.enc v).cells) h1 (by omega) rfl (by decide);refine ⟨x',σ',λK=>a1 K,by rw [a4 1 (by omega) (by omega)];exact h.m,a2.one,⟨?_,by rw [St.zAg,if_pos rfl],by rw [A9];omega,b',bp,bt,?_,?_,?_,by omega,by omega,by omega,by omega,by omega,by omega⟩⟩
 ·rw [St.zAg,if_neg (by omega),a4 0 (by omega) (by omega)];exact h.z
 ·rw [DI,List.length_append];exact a2.of (λ_=>by rw [St.zAg,if_neg (by omega)]) (Nat.le_refl _)
 ·exact (h2.of (σ':=σ') (λhc=>a4 _ hc (by omega)) (by omega)).of (λ_=>by rw [St.zAg,if_neg (by omega)]) (Nat.le_refl _)
 ·exact (h3.of (σ':=σ') (λhc=>a4 _ hc (by omega)) (by omega)).of (λ_=>by rw [St.zAg,if_neg (by omega)]) (Nat.le_refl _)
theorem PM.proc {τ:St} {xv xp xt:V} {vs:List Var} {ps:List Bi} {ts:List Br} (h:PM τ xv xp xt vs ps ts) (hl:ps.length<1000000) (p:Bi) :
 ∃ x' σ',(∀ K:V->St->Option (AEx×List V×St),BQ 43 2 1 [.str p.name,.lst (p.locs.map V.str) false] xp τ K=K x' σ')/\σ'.get 1=some (.blk [xv,xp,xt] 30 0 false)/\x'.one=true/\PM (σ'.put 1 (.blk [xv,x',xt] 30 0 false)) xv x' xt vs (ps++[p]) ts:=by
 obtain ⟨bv,bp,bt,h1,h2,h3,d1,d2,d3,d4,d5,d6,f1,f2,f3⟩:=h.far;have hn:=h.n;obtain ⟨x',b',σ',a1,a2,a3,a4,a5,a6⟩:=DQ (new:=Hl p) h2 (by omega) rfl (by decide);refine ⟨x',σ',λK=>a1 K,by rw [a4 1 (by omega) (by omega)];exact h.m,a2.one,⟨?_,by rw [St.zAg,if_pos rfl],by rw [A9];omega,bv,b',bt,?_,?_,?_,by omega,by omega,by omega,by omega,by omega,by omega⟩⟩
 ·rw [St.zAg,if_neg (by omega),a4 0 (by omega) (by omega)];exact h.z
 ·exact (h1.of (σ':=σ') (λhc=>a4 _ hc (by omega)) (by omega)).of (λ_=>by rw [St.zAg,if_neg (by omega)]) (Nat.le_refl _)
 ·rw [List.flatMap_append,List.length_append];have e:[p].flatMap Hl=Hl p:=by simp
  rw [e];exact a2.of (λ_=>by rw [St.zAg,if_neg (by omega)]) (Nat.le_refl _)
 ·exact (h3.of (σ':=σ') (λhc=>a4 _ hc (by omega)) (by omega)).of (λ_=>by rw [St.zAg,if_neg (by omega)]) (Nat.le_refl _)
theorem PM.tran {τ:St} {xv xp xt:V} {vs:List Var} {ps:List Bi} {ts:List Br} (h:PM τ xv xp xt vs ps ts) (hl:ts.length<1000000) (t:Br) :
 ∃ x' σ',(∀ K:V->St->Option (AEx×List V×St),BQ 70 7 1 [.int .i64 t.id,.str t.proc,.str t.from_,.str t.to,.str t.sync,(AA Al).enc t.guard,(AA Bg).enc t.effs] xt τ K=K x' σ')/\σ'.get 1=some (.blk [xv,xp,xt] 30 0 false)/\x'.one=true/\PM (σ'.put 1 (.blk [xv,xp,x'] 30 0 false)) xv xp x' vs ps (ts++[t]):=by
 obtain ⟨bv,bp,bt,h1,h2,h3,d1,d2,d3,d4,d5,d6,f1,f2,f3⟩:=h.far;have hn:=h.n;obtain ⟨x',b',σ',a1,a2,a3,a4,a5,a6⟩:=DQ (new:=(BF.enc t).cells) h3 (by omega) rfl (by decide);refine ⟨x',σ',λK=>a1 K,by rw [a4 1 (by omega) (by omega)];exact h.m,a2.one,⟨?_,by rw [St.zAg,if_pos rfl],by rw [A9];omega,bv,bp,b',?_,?_,?_,by omega,by omega,by omega,by omega,by omega,by omega⟩⟩
 ·rw [St.zAg,if_neg (by omega),a4 0 (by omega) (by omega)];exact h.z
 ·exact (h1.of (σ':=σ') (λhc=>a4 _ hc (by omega)) (by omega)).of (λ_=>by rw [St.zAg,if_neg (by omega)]) (Nat.le_refl _)
 ·exact (h2.of (σ':=σ') (λhc=>a4 _ hc (by omega)) (by omega)).of (λ_=>by rw [St.zAg,if_neg (by omega)]) (Nat.le_refl _)
 ·rw [DI,List.length_append];exact a2.of (λ_=>by rw [St.zAg,if_neg (by omega)]) (Nat.le_refl _)
structure PMs (l:List B) (vs:List Var) (ps:List Bi) (ts:List Br):Prop where
 var: ∀ v∈vs,v.name.length<1000000
 proc: ∀ p∈ps,p.name.length<1000000/\p.locs.length<1000000/\∀ s∈p.locs,s.length<1000000
 tran: ∀ t∈ts,Dl t
 names: ∀ p∈ps,∃ L∈l,BI L=[112,114,111,99] :: p.name :: p.locs
theorem WX {R:Type} {a b c d x y z:V} (ha:a.one=true) (hb:b.one=true) (hc:c.one=true) (hd:d.one=true) (hx:x.one=true) (hy:y.one=true) (hz:z.one=true) (K:List V->Option R):agN 7 (.agg [a,b,c,d,x,y,z]) K=K [a,b,c,d,x,y,z]:=by
 have e: ∀ v:V,v.one=true->V.isOne v=true:=λv h=>by rw [V.zAh];exact h
 unfold agN;show gd (Nat.beq (BN [a,b,c,d,x,y,z]) 7) (gd (Ey V.isOne [a,b,c,d,x,y,z]) (K [a,b,c,d,x,y,z]))=_;have h1:BN [a,b,c,d,x,y,z]=7:=by rw [CB];rfl
 rw [h1];have h2:Ey V.isOne [a,b,c,d,x,y,z]=true:=by
  unfold Ey;simp only [e a ha,e b hb,e c hc,e d hd,e x hx,e y hy,e z hz]
 rw [h2];rfl
structure Qx (call:SS.Call) (pt:B->Br×Bool):Prop where
 words: ∀ (s:B) τ,s.length<999999->call 47 [.str s] τ=some ((AA AC).enc (BI s),τ)
 parseVar: ∀ (l:List B) τ,l.length<1000000->(∀ s∈l,s.length<1000000)->call 48 [.lst (l.map V.str) false] τ=some (.tup [Az.enc (parseVar l).1,.bool (parseVar l).2],τ)
 skip: ∀ (s:B) (n:Nat) τ,s.length<1000000->n<10->call 50 [.str s,.int .i64 (n:Int)] τ=some (.str (Cb s n),τ)
 parseTrans: ∀ (s:B) τ,s.length<900000->call 49 [.str s] τ=some (.tup [BF.enc (pt s).1,.bool (pt s).2],τ)
 small: ∀ s,s.length<900000->Dl (pt s).1
theorem pE (l:List B) (hs: ∀ s∈l,s.length<1000000):(parseVar l).1.name.length<1000000:=by
 unfold parseVar
 split
 ·exact hs _ (by simp)
 ·show 0<1000000;omega
theorem xG (s:B):(BI s).length<=s.length+1:=Nat.le_trans (List.length_filter_le _ _) (GX 32 s)
set_option maxHeartbeats 32000000 in
theorem pY {call:SS.Call} {pt:B->Br×Bool} (h:Qx call pt) {k:Nat} (l:List B) (hl:l.length<900000) (hs: ∀ s∈l,s.length<90000) (i:Nat) (hi:i<l.length) (st:Int) (τ:St) {xv xp xt:V} {vs:List Var} {ps:List Bi} {ts:List Br} (hI:PM τ xv xp xt vs ps ts) (hP:PMs l vs ps ts) (h1:vs.length<=i) (h2:ps.length<=i) (h3:ts.length<=i) :
 ∃ σ,(∃ st' xv' xp' xt' vs' ps' ts',t27_2 call k [.ptr 0 0 0,.ptr 1 0 0,.int .i64 st,(AA AC).enc l,.int .i64 (i:Int)] τ=some (.norm,[.ptr 0 0 0,.ptr 1 0 0,.int .i64 st',(AA AC).enc l,.int .i64 ((i+1:Nat):Int)],σ)/\PM σ xv' xp' xt' vs' ps' ts'/\PMs l vs' ps' ts'/\vs'.length<=i+1/\ps'.length<=i+1/\ts'.length<=i+1) \/
  t27_2 call k [.ptr 0 0 0,.ptr 1 0 0,.int .i64 st,(AA AC).enc l,.int .i64 (i:Int)] τ=some (.ret,[.agg [.nilS,.nilS,.nilS],.int .i64 2,.int .i64 ((i+1:Nat):Int)],σ):=by
 have hz:=hI.z;have hm:=hI.m;have hn:=hI.n
 have hlen:=hs _ (List.getElem_mem hi);have hW:=h.words l[i] τ (by omega);have hWl:=xG l[i];have hWs: ∀ s∈BI l[i],s.length<1000000:=λs hs=>by have:=WU l[i] s hs;omega
 have hst: ∀ (σ:St),σ.get 0=some (.blk [.nilS,.nilS,.nilS] 30 0 false)->storeAt env 30 (.ptr 0 0 0) (.agg [.nilS,.nilS,.nilS]) σ=some (σ.put 0 (.blk [.nilS,.nilS,.nilS] 30 0 false)):=λσ hg=>Ef Jv hg rfl rfl rfl
 have e1:((i:Int)+1)=((i+1:Nat):Int):=by omega
 have fin: ∀ (σ:St) (kd:Int) (ok:Bool) (xv' xp' xt':V) (vs':List Var) (ps':List Bi) (ts':List Br),PM σ xv' xp' xt' vs' ps' ts' ->
  Aw 1 (t27_0 call k [.ptr 0 0 0,.ptr 1 0 0,.int .i64 st,(AA AC).enc l,.int .i64 (i:Int),.int .i64 kd,.bool ok] σ) (t27_1 call k)=some (.norm,[.ptr 0 0 0,.ptr 1 0 0,.int .i64 kd,(AA AC).enc l,.int .i64 ((i+1:Nat):Int)],σ) \/
  ∃ σ',Aw 1 (t27_0 call k [.ptr 0 0 0,.ptr 1 0 0,.int .i64 st,(AA AC).enc l,.int .i64 (i:Int),.int .i64 kd,.bool ok] σ) (t27_1 call k)=some (.ret,[.agg [.nilS,.nilS,.nilS],.int .i64 2,.int .i64 ((i+1:Nat):Int)],σ'):=by
  intro σ kd ok xv' xp' xt' vs' ps' ts' hpm;have hz':=hpm.z;have hst':=hst σ hz';unfold t27_0 t27_1;cases ok with
  | false =>
   right;simp (disch:=try exact dD _) only [↓reduceIte,↓rK,rP,Nat.reduceAdd,hst',e1];exact ⟨_,rfl⟩
  | true =>
   by_cases hk:kd<st
   ·right;have hk':=eq_true hk;simp (disch:=try exact dD _) only [↓reduceIte,↓rK,rP,Nat.reduceAdd,hst',e1,hk'];exact ⟨_,rfl⟩
   ·left;have hk':=eq_false hk;simp (disch:=try exact dD _) only [↓reduceIte,↓rK,rP,e1,hk']
 have keep: ∀ (xv' xp' xt':V) (vs':List Var) (ps':List Bi) (ts':List Br) (σ:St) (kd:Int) (ok:Bool) (w:Res),PM σ xv' xp' xt' vs' ps' ts'->PMs l vs' ps' ts'->vs'.length<=i+1->ps'.length<=i+1->ts'.length<=i+1 ->
  Aw 1 (t27_0 call k [.ptr 0 0 0,.ptr 1 0 0,.int .i64 st,(AA AC).enc l,.int .i64 (i:Int),.int .i64 kd,.bool ok] σ) (t27_1 call k)=w ->
  ∃ σ,(∃ st' xv' xp' xt' vs' ps' ts',w=some (.norm,[.ptr 0 0 0,.ptr 1 0 0,.int .i64 st',(AA AC).enc l,.int .i64 ((i+1:Nat):Int)],σ)/\PM σ xv' xp' xt' vs' ps' ts'/\PMs l vs' ps' ts'/\vs'.length<=i+1/\ps'.length<=i+1/\ts'.length<=i+1) \/
   w=some (.ret,[.agg [.nilS,.nilS,.nilS],.int .i64 2,.int .i64 ((i+1:Nat):Int)],σ):=by
  intro xv' xp' xt' vs' ps' ts' σ kd ok w hpm hps l1 l2 l3 hw;rcases fin σ kd ok xv' xp' xt' vs' ps' ts' hpm with f | ⟨σ',f⟩
  ·exact ⟨σ,.inl ⟨kd,xv',xp',xt',vs',ps',ts',hw.symm.trans f,hpm,hps,l1,l2,l3⟩⟩
  ·exact ⟨σ',.inr (hw.symm.trans f)⟩
 generalize hw:t27_2 call k [.ptr 0 0 0,.ptr 1 0 0,.int .i64 st,(AA AC).enc l,.int .i64 (i:Int)] τ=w;unfold t27_2 at hw;by_cases h0:l[i]=[]
 ·have h0':=eq_true h0;unfold t27_1 at hw;simp (disch:=try exact dD _) only [↓reduceIte,↓rK,rP,h0',e1] at hw;exact ⟨τ,.inl ⟨st,xv,xp,xt,vs,ps,ts,hw.symm,hI,hP,by omega,by omega,by omega⟩⟩
 ·have h0':=eq_false h0;have nil:=λ(kd:Int) (ok:Bool)=>keep xv xp xt vs ps ts τ kd ok w hI hP (by omega) (by omega) (by omega)
  cases hWe:BI l[i] with
  | nil =>
   rw [hWe] at hW;simp (disch:=try exact dD _) only [↓reduceIte,↓rK,rP,h0',hW] at hw;exact nil _ _ hw
  | cons a r =>
   rw [hWe] at hW hWl hWs;have hr1:(a :: r).length<1000000:=by omega
   have i0: ∀ (K:V->Option (AEx×List V×St)),AZ 1 ((AA AC).enc (a :: r)) 0 0 τ K=K (.str a):=λK=>ER (n:=0) (l:=a :: r) (by simp) K
   have hpos:(0:Int)<((a :: r).length:Int):=by simp only [List.length_cons];omega
   have hsl:=λn hn=>QJ (a :: r) (by simp) n hn τ
   by_cases hv:a=[118,97,114]
   ·have hv':=eq_true hv;have hsl1:sliceAt env 37 ((AA AC).enc (a :: r)) (some (.int .i64 1)) none none τ=some (.lst (r.map V.str) false):=hsl 1 (by simp);have hpv:=h.parseVar r τ (by simp at hr1;omega) (λs hs=>hWs s (by simp [hs]));have hsmall:=pE r (λs hs=>hWs s (by simp [hs]));generalize hPV:(parseVar r).1=pv at *;generalize hPB:(parseVar r).2=pb at *;have hI2:PM ((τ.new (.blk [.str [],.int .i64 0,.int .i64 0,.int .i64 0] 62 0 false)).put τ.n (.blk [.str pv.name,.int .i64 pv.low,.int .i64 pv.high,.int .i64 pv.init] 62 0 false)) xv xp xt vs ps ts :=
     hI.of (λc hc=>by rw [St.zAg,if_neg (by omega),St.zAe,if_neg (by omega)]) (by rw [A9,Aa];omega)
    obtain ⟨x',σ',a1,a2,a3,a4⟩:=hI2.var (by omega) pv;have hx:xv.one=true:=by obtain ⟨_,_,_,q1,_⟩:=hI.ls;exact q1.one
    generalize (a :: r).length=N at *;simp (disch:=try exact dD _) only [↓reduceIte,↓rK,rP,Nat.reduceAdd,h0',hW,i0,hv',hsl1,hpv,Ay FW,hm,hx,LG,↓LG,a1,a2] at hw;exact keep x' xp xt (vs++[pv]) ps ts _ 1 pb w a4 ⟨λv hv=>by rcases List.mem_append.1 hv with h | h;exact hP.var v h;rw [List.mem_singleton.1 h];exact hsmall,hP.proc,hP.tran,hP.names⟩ (by simp;omega) (by omega) (by omega) hw
   ·have hv':=eq_false hv;by_cases hp:a=[112,114,111,99]
    ·have hp':=eq_true hp;cases r with
     | nil =>
      have h11:¬(1<(([a]:List B).length:Int)):=by simp
      generalize ([a]:List B).length=N at *;simp (disch:=try exact dD _) only [↓reduceIte,↓rK,rP,h0',hW,i0,hv',hp'] at hw;exact nil _ _ hw
     | cons b q =>
      have h11:1<((a :: b :: q).length:Int):=by simp only [List.length_cons];omega
      have i1: ∀ (K:V->Option (AEx×List V×St)),AZ 1 ((AA AC).enc (a :: b :: q)) 1 0 τ K=K (.str b):=λK=>ER (n:=1) (l:=a :: b :: q) (by simp) K
      have hsl2:sliceAt env 37 ((AA AC).enc (a :: b :: q)) (some (.int .i64 2)) none none τ=some (.lst (q.map V.str) false):=hsl 2 (by simp);obtain ⟨x',σ',a1,a2,a3,a4⟩:=hI.proc (by omega) ⟨b,q⟩;have hx:xp.one=true:=by obtain ⟨_,_,_,_,q1,_⟩:=hI.ls;exact q1.one
      have hb:=hWs b (by simp);have hq:q.length<1000000:=by simp at hr1;omega
      have hqs: ∀ s∈q,s.length<1000000:=λs hs=>hWs s (by simp [hs])
      generalize (a :: b :: q).length=N at *;simp (disch:=try exact dD _) only [↓reduceIte,↓rK,rP,Nat.reduceAdd,h0',hW,i0,i1,hv',hp',hsl2,hm,hx,a1,a2] at hw;refine keep xv x' xt vs (ps++[⟨b,q⟩]) ts _ 2 true w a4 ⟨hP.var,λp hpm=>?_,hP.tran,λp hpm=>?_⟩ (by omega) (by simp;omega) (by omega) hw
      ·rcases List.mem_append.1 hpm with h | h
       ·exact hP.proc p h
       ·rw [List.mem_singleton.1 h];exact ⟨hb,hq,hqs⟩
      ·rcases List.mem_append.1 hpm with h | h
       ·exact hP.names p h
       ·rw [List.mem_singleton.1 h];exact ⟨_,List.getElem_mem hi,by rw [hWe,hp]⟩
    ·have hp':=eq_false hp;by_cases ht:a=[116,114,97,110,115]
     ·have ht':=eq_true ht;have hsk:=h.skip l[i] 1 τ (by omega) (by omega);rw [show ((1:Nat):Int)=1 from rfl] at hsk;have hsl:=Vf l[i] 1;have hpt:=h.parseTrans (Cb l[i] 1) τ (by omega);have hsm:=h.small (Cb l[i] 1) (by omega);generalize (pt (Cb l[i] 1)).1=t at *;generalize (pt (Cb l[i] 1)).2=tb at *;have hI2:PM ((τ.new (.blk [.int .i64 0,.str [],.str [],.str [],.str [],.nilS,.nilS] 70 0 false)).put τ.n (.blk [.int .i64 t.id,.str t.proc,.str t.from_,.str t.to,.str t.sync,(AA Al).enc t.guard,(AA Bg).enc t.effs] 70 0 false)) xv xp xt vs ps ts :=
       hI.of (λc hc=>by rw [St.zAg,if_neg (by omega),St.zAe,if_neg (by omega)]) (by rw [A9,Aa];omega)
      obtain ⟨x',σ',a1,a2,a3,a4⟩:=hI2.tran (by omega) t;have hx:xt.one=true:=by obtain ⟨_,_,_,_,_,q1,_⟩:=hI.ls;exact q1.one
      generalize (a :: r).length=N at *;simp (disch:=try exact dD _) only [↓reduceIte,↓rK,rP,Nat.reduceAdd,h0',hW,i0,hv',hp',ht',hsk,hpt,Ay FV,hm,hx,WX,↓WX,a1,a2] at hw;exact keep xv xp x' vs ps (ts++[t]) _ 3 tb w a4 ⟨hP.var,hP.proc,λv hv=>by rcases List.mem_append.1 hv with h | h;exact hP.tran v h;rw [List.mem_singleton.1 h];exact hsm,hP.names⟩ (by omega) (by omega) (by simp;omega) hw
     ·have ht':=eq_false ht;generalize (a :: r).length=N at *;simp (disch:=try exact dD _) only [↓reduceIte,↓rK,rP,h0',hW,i0,hv',hp',ht'] at hw;exact nil _ _ hw
theorem PM.kind {τ:St} {a b c:V} {vs:List Var} {ps:List Bi} {ts:List Br} (h:PM τ a b c vs ps ts):(V.agg [a,b,c]).kind≠0:=by
 obtain ⟨bv,bp,bt,h1,h2,h3,_⟩:=h.ls;have:=Il h1;rw [E5,BM];omega
set_option maxHeartbeats 8000000 in
theorem o7 {call:SS.Call} {pt:B->Br×Bool} (h:Qx call pt) (h1: ∀ (s:B) (c:UInt8) τ,s.length<1000000->call 10 [.str s,.int .u8 (by8 c)] τ=some ((AA AC).enc (cut c s),τ))
 (h2: ∀ (v:V) (m:AQ) τ,Ae m->Bd env τ [v]=some [AP.enc m]->call 8 [v] τ=some (.bool m.right,τ)) {k:Nat} (s:B) (hk:70000<k) :
 ∃ v σ,t27 call k [.str s] .empty=some (v,σ)/\((∃ e a:Int,v=.tup [.agg [.nilS,.nilS,.nilS],.int .i64 e,.int .i64 a]/\e≠0) \/
  ∃ m:AQ,v.kind≠0/\frz env σ 64 v=some ((K8 AP AJ AJ).enc (m,0,0))/\m.right=true/\Ae m/\∀ p∈m.procs,∃ L∈cut 10 s,BI L=[112,114,111,99] :: p.name :: p.locs):=by
 have hst: ∀ (σ:St),σ.get 0=some (.blk [.nilS,.nilS,.nilS] 30 0 false)->storeAt env 30 (.ptr 0 0 0) (.agg [.nilS,.nilS,.nilS]) σ=some (σ.put 0 (.blk [.nilS,.nilS,.nilS] 30 0 false)):=λσ hg=>Ef Jv hg rfl rfl rfl
 generalize hw:t27 call k [.str s] .empty=w;unfold t27 at hw;by_cases hlong:(60000:Int)<(s.length:Int)
 ·have hst':=hst (St.empty.new (.blk [.nilS,.nilS,.nilS] 30 0 false)) rfl;have hl':=eq_true hlong;simp (disch:=try exact dD _) only [↓reduceIte,↓rK,rP,AL,Nat.reduceAdd,hl',hst'] at hw;exact ⟨_,_,hw.symm,.inl ⟨14,0,rfl,by decide⟩⟩
 ·have hl':=eq_false hlong;have hc:=λτ=>h1 s 10 τ (by omega)
  rw [show by8 10=10 from rfl] at hc;have hcl:=GX 10 s;have hcs: ∀ w∈cut 10 s,w.length<90000:=λw hw=>by have:=KL 10 s w hw;omega
  generalize hL:cut 10 s=l at *;have hlen:l.length<900000:=by omega
  obtain ⟨e,vs',σ,g1,g2,g3⟩:=Bl (P:=t27_2 call k) (Inv:=λr v τ=>∃ (i:Nat) (st:Int) (xv xp xt:V) (vs:List Var) (ps:List Bi) (ts:List Br),r+i=l.length/\v=[.ptr 0 0 0,.ptr 1 0 0,.int .i64 st,(AA AC).enc l,.int .i64 (i:Int)]/\PM τ xv xp xt vs ps ts/\PMs l vs ps ts/\vs.length<=i/\ps.length<=i/\ts.length<=i)
   (Q:=λy=>(y.1=.exit 0/\y.2.1=[.ptr 0 0 0,.ptr 1 0 0]/\∃ (xv xp xt:V) (vs:List Var) (ps:List Bi) (ts:List Br),PM y.2.2 xv xp xt vs ps ts/\PMs l vs ps ts/\vs.length<1000000/\ps.length<1000000/\ts.length<1000000)\/(y.1=.ret/\∃ a:Int,y.2.1=[.agg [.nilS,.nilS,.nilS],.int .i64 2,.int .i64 a]))
   (by
     rintro r v τ ⟨i,st,xv,xp,xt,vs,ps,ts,hr,rfl,hI,hP,l1,l2,l3⟩
     by_cases hi:i<l.length
     ·obtain ⟨σ,f⟩:=pY h (k:=k) l hlen hcs i hi st τ hI hP l1 l2 l3;rcases f with ⟨st',xv',xp',xt',vs',ps',ts',f1,f2,f3,f4,f5,f6⟩ | f
      ·exact .inl ⟨r - 1,_,σ,by omega,f1,i+1,st',xv',xp',xt',vs',ps',ts',by omega,rfl,f2,f3,f4,f5,f6⟩
      ·exact .inr ⟨_,_,σ,f,(by intro h;cases h),.inr ⟨rfl,_,rfl⟩⟩
     ·have he:i=l.length:=by omega
      subst he;refine .inr ⟨.exit 0,[.ptr 0 0 0,.ptr 1 0 0],τ,?_,(by intro h;cases h),.inl ⟨rfl,rfl,xv,xp,xt,vs,ps,ts,hI,hP,by omega,by omega,by omega⟩⟩;unfold t27_2;simp (disch:=try exact dD _) only [↓reduceIte,↓rK,rP])
   l.length k [.ptr 0 0 0,.ptr 1 0 0,.int .i64 0,(AA AC).enc l,.int .i64 0] ((St.empty.new (.blk [.nilS,.nilS,.nilS] 30 0 false)).new (.blk [.nilS,.nilS,.nilS] 30 0 false)) (by omega)
   ⟨0,0,.nilS,.nilS,.nilS,[],[],[],by omega,rfl,⟨rfl,rfl,by decide,2,3,4,C5 _ _ _ _,C5 _ _ _ _,C5 _ _ _ _,by omega,by omega,by omega,by omega,by omega,by omega⟩,⟨by simp,by simp,by simp,by simp⟩,by simp,by simp,by simp⟩
  simp (disch:=try exact dD _) only [↓reduceIte,↓rK,rP,hl',hc,g1] at hw;rcases g3 with ⟨q1,q2,xv,xp,xt,vs,ps,ts,hI,hP,l1,l2,l3⟩ | ⟨q1,a,q2⟩
  ·simp only at q1 q2 hI;subst q1 q2;unfold t27_3 at hw;have hm:=hI.m;obtain ⟨bv,bp,bt,f1,f2,f3,_⟩:=hI.ls;have sm:Ae ⟨vs,ps,ts⟩:=⟨l1,hP.var,l2,hP.proc,l3,hP.tran⟩
   have hr:=h2 (.agg [xv,xp,xt]) ⟨vs,ps,ts⟩ σ sm (bQ hI.kind (TP (n:=63) (by omega) f1 f2 f3));have hst':=hst σ hI.z;have hst2:storeAt env 30 (.ptr 0 0 0) (.agg [xv,xp,xt]) σ=some (σ.put 0 (.blk [xv,xp,xt] 30 0 false)):=Ef Jv hI.z rfl rfl (by simp [V.cells,BO,f1.one,f2.one,f3.one]);cases hmr:AQ.right ⟨vs,ps,ts⟩ with
   | false =>
    rw [hmr] at hr;simp (disch:=try exact dD _) only [↓reduceIte,↓rK,rP,AL,Nat.reduceAdd,hm,hr,hst'] at hw;exact ⟨_,_,hw.symm,.inl ⟨2,0,rfl,by decide⟩⟩
   | true =>
    rw [hmr] at hr;simp (disch:=try exact dD _) only [↓reduceIte,↓rK,rP,AL,Nat.reduceAdd,hm,hr,hst2] at hw;refine ⟨_,_,hw.symm,.inr ⟨⟨vs,ps,ts⟩,?_,?_,hmr,sm,hP.names⟩⟩
    ·rw [HZ,BM];have:=hI.kind;omega
    ·have hn:=hI.n;obtain ⟨cv,cp,ct,e1,e2,e3,d1,d2,d3,_⟩:=hI.ls;have o: ∀ {ty sz v n cs b},Lst σ ty sz v n cs b->2<=b->Lst (σ.put 0 (.blk [xv,xp,xt] 30 0 false)) ty sz v n cs b:=λh hb=>h.of (λ_=>by rw [St.zAg,if_neg (by omega)]) (Nat.le_refl _)
     show (match [V.agg [xv,xp,xt],.int .i64 0,.int .i64 0].mapM (frz env _ 63) with | some ys=>some (V.tup ys) | none=>none)=_;rw [List.mapM_cons,List.mapM_cons,List.mapM_cons,List.mapM_nil,TP (n:=62) (by omega) (o e1 d1) (o e2 d2) (o e3 d3)];rfl
  ·simp only at q1 q2;subst q1 q2;simp (disch:=try exact dD _) only [↓rK,rP,AL] at hw;exact ⟨_,_,hw.symm,.inl ⟨2,a,rfl,by decide⟩⟩
end Go.Proofs.YtglndmmlghpdpaaGreatDoor
