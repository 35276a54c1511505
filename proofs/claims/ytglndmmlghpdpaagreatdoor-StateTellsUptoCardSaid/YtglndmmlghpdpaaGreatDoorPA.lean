/-
  part 1 of the proof; no condition.
-/
import Derived.Defers
import GoSem.Dispatch
namespace SS
open Go
inductive PT (α:Type) where
 | leaf
 | node (l:PT α) (v:Option α) (r:PT α)
namespace PT
variable {α:Type}
def get:PT α->Nat->Option α
 | .leaf,_=>none
 | .node l v r,n=>bif Nat.beq n 0 then v else bif Nat.beq (n % 2) 1 then l.get (n / 2) else r.get (n / 2 - 1)
def setF:Nat->PT α->Nat->α->PT α
 | 0,t,_,_=>t
 | k+1,.leaf,n,x=>bif Nat.beq n 0 then .node .leaf (some x) .leaf else bif Nat.beq (n % 2) 1 then .node (setF k .leaf (n / 2) x) none .leaf else .node .leaf none (setF k .leaf (n / 2 - 1) x)
 | k+1,.node l v r,n,x=>bif Nat.beq n 0 then .node l (some x) r else bif Nat.beq (n % 2) 1 then .node (setF k l (n / 2) x) v r else .node l v (setF k r (n / 2 - 1) x)
def set (t:PT α) (n:Nat) (x:α):PT α:=setF (n+1) t n x
theorem get_leaf (n:Nat):(leaf:PT α).get n=none:=rfl
theorem KV (x:α): ∀ (k:Nat) (t:PT α) (n m:Nat),n<k->(setF k t n x).get m=if m=n then some x else t.get m
 | 0,_,_,_,h=>by omega
 | k+1,.leaf,n,m,h=>by
  by_cases hn:n=0
  ·subst hn;by_cases hm:m=0
   ·subst hm;simp [setF,get]
   ·have:Nat.beq m 0=false:=by cases hb:Nat.beq m 0;rfl;exact absurd (Nat.eq_of_beq_eq_true hb) hm
    by_cases hp:m % 2=1<;>simp [setF,get,hm,this,hp]
  ·have hb:Nat.beq n 0=false:=by cases hb:Nat.beq n 0;rfl;exact absurd (Nat.eq_of_beq_eq_true hb) hn
   by_cases hp:n % 2=1
   ·have hpb:Nat.beq (n % 2) 1=true:=by rw [hp];rfl
    have ih:=KV x k .leaf (n / 2);simp only [setF,hb,hpb,cond_false,cond_true,get];by_cases hm:m=0
    ·subst hm;simp;omega
    ·have hmb:Nat.beq m 0=false:=by cases hb:Nat.beq m 0;rfl;exact absurd (Nat.eq_of_beq_eq_true hb) hm
     simp only [hmb,cond_false];by_cases hq:m % 2=1
     ·have hqb:Nat.beq (m % 2) 1=true:=by rw [hq];rfl
      simp only [hqb,cond_true,ih (m / 2) (by omega),get_leaf];by_cases e:m=n
      ·subst e;simp
      ·rw [if_neg e,if_neg (by omega)]
     ·have hqb:Nat.beq (m % 2) 1=false:=by
       cases hb:Nat.beq (m % 2) 1;rfl;exact absurd (Nat.eq_of_beq_eq_true hb) hq
      simp only [hqb,cond_false];rw [if_neg (by intro e;subst e;exact hq hp)]
   ·have hpb:Nat.beq (n % 2) 1=false:=by
     cases hb:Nat.beq (n % 2) 1;rfl;exact absurd (Nat.eq_of_beq_eq_true hb) hp
    have ih:=KV x k .leaf (n / 2 - 1);simp only [setF,hb,hpb,cond_false,get];by_cases hm:m=0
    ·subst hm;simp;omega
    ·have hmb:Nat.beq m 0=false:=by cases hb:Nat.beq m 0;rfl;exact absurd (Nat.eq_of_beq_eq_true hb) hm
     simp only [hmb,cond_false];by_cases hq:m % 2=1
     ·have hqb:Nat.beq (m % 2) 1=true:=by rw [hq];rfl
      simp only [hqb,cond_true];rw [if_neg (by intro e;subst e;exact hp hq)];try rfl
     ·have hqb:Nat.beq (m % 2) 1=false:=by
       cases hb:Nat.beq (m % 2) 1;rfl;exact absurd (Nat.eq_of_beq_eq_true hb) hq
      simp only [hqb,cond_false,ih (m / 2 - 1) (by omega),get_leaf];by_cases e:m=n
      ·subst e;simp
      ·rw [if_neg e,if_neg (by omega)]
 | k+1,.node l v r,n,m,h=>by
  by_cases hn:n=0
  ·subst hn;by_cases hm:m=0
   ·subst hm;simp [setF,get]
   ·have:Nat.beq m 0=false:=by cases hb:Nat.beq m 0;rfl;exact absurd (Nat.eq_of_beq_eq_true hb) hm
    by_cases hp:m % 2=1<;>simp [setF,get,hm,this,hp]
  ·have hb:Nat.beq n 0=false:=by cases hb:Nat.beq n 0;rfl;exact absurd (Nat.eq_of_beq_eq_true hb) hn
   by_cases hp:n % 2=1
   ·have hpb:Nat.beq (n % 2) 1=true:=by rw [hp];rfl
    have ih:=KV x k l (n / 2);simp only [setF,hb,hpb,cond_false,cond_true,get];by_cases hm:m=0
    ·subst hm;simp;omega
    ·have hmb:Nat.beq m 0=false:=by cases hb:Nat.beq m 0;rfl;exact absurd (Nat.eq_of_beq_eq_true hb) hm
     simp only [hmb,cond_false];by_cases hq:m % 2=1
     ·have hqb:Nat.beq (m % 2) 1=true:=by rw [hq];rfl
      simp only [hqb,cond_true,ih (m / 2) (by omega)];by_cases e:m=n
      ·subst e;simp
      ·rw [if_neg e,if_neg (by omega)]
     ·have hqb:Nat.beq (m % 2) 1=false:=by
       cases hb:Nat.beq (m % 2) 1;rfl;exact absurd (Nat.eq_of_beq_eq_true hb) hq
      simp only [hqb,cond_false];rw [if_neg (by intro e;subst e;exact hq hp)]
   ·have hpb:Nat.beq (n % 2) 1=false:=by
     cases hb:Nat.beq (n % 2) 1;rfl;exact absurd (Nat.eq_of_beq_eq_true hb) hp
    have ih:=KV x k r (n / 2 - 1);simp only [setF,hb,hpb,cond_false,get];by_cases hm:m=0
    ·subst hm;simp;omega
    ·have hmb:Nat.beq m 0=false:=by cases hb:Nat.beq m 0;rfl;exact absurd (Nat.eq_of_beq_eq_true hb) hm
     simp only [hmb,cond_false];by_cases hq:m % 2=1
     ·have hqb:Nat.beq (m % 2) 1=true:=by rw [hq];rfl
      simp only [hqb,cond_true];rw [if_neg (by intro e;subst e;exact hp hq)]
     ·have hqb:Nat.beq (m % 2) 1=false:=by
       cases hb:Nat.beq (m % 2) 1;rfl;exact absurd (Nat.eq_of_beq_eq_true hb) hq
      simp only [hqb,cond_false,ih (m / 2 - 1) (by omega)];by_cases e:m=n
      ·subst e;simp
      ·rw [if_neg e,if_neg (by omega)]
theorem get_set (t:PT α) (n m:Nat) (x:α):(t.set n x).get m=if m=n then some x else t.get m :=
 KV x (n+1) t n m (by omega)
end PT
inductive V where
 | bool (b:Bool)
 | int (k:IntKind) (n:Int)
 | str (s:List UInt8)
 | nilS
 | emp
 | lst (xs:List V) (full:Bool)
 | ref (b ver off len:Nat) (cap:Option Nat)
 | ptr0
 | ptr (b ver off:Nat)
 | eptr (xs:List V) (i j:Nat)
 | gptr (g off:Nat)
 | map0
 | map (b:Nat)
 | fn0
 | fn (f:FuncId) (cap:List V)
 | if0
 | ifc (t:TypeId) (v:V)
 | agg (cs:List V)
 | tup (vs:List V)
 | opq
 deriving Inhabited
def V.cells:V->List V
 | .agg cs=>cs
 | v=>[v]
def V.one:V->Bool
 | .agg _ | .tup _=>false
 | _=>true
def V.kind:V->Nat
 | .bool _ | .int _ _ | .str _ | .ptr0 | .map0 | .fn0 | .if0 | .opq | .emp=>0
 | .nilS=>1
 | .lst [] _=>1
 | .lst (x :: xs) full=>max (bif full then 1 else 0) (max x.kind (kinds xs))
 | .ref ..=>2
 | .agg cs=>kinds cs
 | .tup vs=>kinds vs
 | .ifc _ v=>v.kind
 | .ptr .. | .eptr .. | .gptr .. | .map _ | .fn ..=>3
  where kinds:List V->Nat
 | []=>0
 | x :: xs=>max x.kind (kinds xs)
def V.under (n:Nat):V->Bool
 | .bool _ | .int _ _ | .str _ | .ptr0 | .map0 | .fn0 | .if0 | .opq | .gptr .. | .nilS | .emp=>true
 | .lst xs _=>unders n xs
 | .ref b ..=>Nat.blt b n
 | .ptr b ..=>Nat.blt b n
 | .map b=>Nat.blt b n
 | .eptr xs _ _=>unders n xs
 | .agg cs=>unders n cs
 | .tup vs=>unders n vs
 | .fn _ vs=>unders n vs
 | .ifc _ v=>v.under n
  where unders (n:Nat):List V->Bool
 | []=>true
 | x :: xs=>x.under n&&unders n xs
def V.scal:V->Bool
 | .bool _ | .int _ _ | .str _ | .opq | .if0=>true
 | .ifc _ v=>v.scal
 | .agg cs=>scals cs
 | .tup vs=>scals vs
 | _=>false
  where scals:List V->Bool
 | []=>true
 | x :: xs=>x.scal&&scals xs
inductive AO where
 | blk (cs:List V) (ty:TypeId) (ver:Nat) (fz:Bool)
 | map (es:List (V×V×Nat)) (clock:Nat)
structure St where
 h:PT AO
 n:Nat
 tch:Nat
def St.get (σ:St) (b:Nat):Option AO:=σ.h.get b
def St.put (σ:St) (b:Nat) (o:AO):St:={ h:=σ.h.set b o,n:=σ.n,tch:=bif Nat.blt b σ.tch then b else σ.tch }
def St.new (σ:St) (o:AO):St:={ h:=σ.h.set σ.n o,n:=σ.n+1,tch:=σ.tch }
def St.empty:St:={ h:=.leaf,n:=0,tch:=0 }
inductive Ext where
 | load (k:IntKind)
 | store
 | cas (k:IntKind)
 | add (k:IntKind)
 | nothing
 | mark
 | same
 | makeNoZero (elem:TypeId)
 | countStr
 | indexByteStr
 | indexStr (g:Nat)
 | insert (elem:TypeId) (sz:Nat)
 | out
structure Env where
 P:Program
 G:Nat->Option (List V)
 pure:FuncId->Nat
 extn:FuncId->Option Ext
 wlit:TypeId->Bool
 split:FuncId->Bool
 late:Oper->Bool
 back:FuncId->Bool:=λ_=>false
def Be:TypeDesc->Bool
 | .struct _ | .array _ _=>true
 | _=>false
def part (P:Program) (t:TypeId) (cs:List V) (off:Nat):Option V :=
 match P.info? t,P.underlying t with
 | some i,some d =>
  if Be d then
   let r:=(cs.drop off).take i.size
   if Nat.beq r.length i.size then some (.agg r) else none
  else match cs[off]? with
   | some v=>if v.one then some v else none
   | none=>none
 | _,_=>none
def MV:Value->Option V
 | .bool b=>some (.bool b)
 | .int k n=>some (.int k n)
 | .string s=>some (.str s.data.toList)
 | .pointer none=>some .ptr0
 | .slice none 0 0=>some .nilS
 | .map none=>some .map0
 | .nilFunc=>some .fn0
 | .nilIface=>some .if0
 | _=>none
def MW:List Value->Option (List V)
 | []=>some []
 | v :: r=>match MV v,MW r with
  | some x,some xs=>some (x :: xs)
  | _,_=>none
def Kj:Value->Option V
 | .agg cs=>match MW cs.toList with
  | some xs=>some (.agg xs)
  | none=>none
 | .tuple cs=>if cs.isEmpty then some (.tup []) else none
 | v=>MV v
def Cm (P:Program) (t:TypeId):Option V :=
 match P.info? t with
 | some i=>match i.zero with
  | some z=>Kj z
  | none=>none
 | none=>none
structure Fr where
 t:PT V
 n:Nat
 d:List (FuncId×List V)
def Fr.put (fr:Fr) (d:Option Nat) (v:V):Option Fr :=
 match d with
 | some d=>if Nat.blt d fr.n then some { fr with t:=fr.t.set d v } else none
 | none=>some fr
def Fr.ev (fr:Fr):Operand->Option V
 | .tmp t=>fr.t.get t
 | .const v=>Kj v
 | .global g=>some (.gptr g 0)
 | .func f=>some (.fn f [])
def evs (ev:Operand->Option V):List Operand->Option (List V)
 | []=>some []
 | x :: r=>match ev x,evs ev r with
  | some v,some vs=>some (v :: vs)
  | _,_=>none
def Ca (cs:List V) (off:Nat):List V->Option (List V)
 | []=>if Nat.ble off cs.length then some cs else none
 | v :: vs=>if Nat.blt off cs.length&&v.one then Ca (cs.set off v) (off+1) vs else none
def loadAt (E:Env) (t:TypeId) (p:V) (σ:St):Option V :=
 match p with
 | .ptr b ver off=>match σ.get b with
  | some (.blk cs _ ver' _)=>if Nat.beq ver ver' then part E.P t cs off else none
  | _=>none
 | .eptr xs i j=>match xs[i]? with
  | some x=>part E.P t x.cells j
  | none=>none
 | .gptr g off=>match E.G g with
  | some cs=>part E.P t cs off
  | none=>none
 | _=>none
def storeAt (E:Env) (t:TypeId) (p v:V) (σ:St):Option St :=
 match p,E.P.info? t with
 | .ptr b ver off,some i=>match σ.get b with
  | some (.blk cs ty ver' false) =>
   if Nat.beq ver ver'&&Nat.beq v.cells.length i.size then
    match Ca cs off v.cells with
    | some cs'=>some (σ.put b (.blk cs' ty ver' false))
    | none=>none
   else none
  | _=>none
 | _,_=>none
def fieldAt (E:Env) (s:TypeId) (p:V) (f:Nat):Option V :=
 match E.P.underlying s with
 | some (.struct fs)=>match fs[f]? with
  | some fd=>match E.P.info? fd.type with
   | some i =>
    if Nat.beq i.size 0 then none else
    match p with
    | .ptr b ver off=>some (.ptr b ver (off+fd.offset))
    | .eptr xs i j=>some (.eptr xs i (j+fd.offset))
    | .gptr g off=>some (.gptr g (off+fd.offset))
    | _=>none
   | none=>none
  | none=>none
 | _=>none
def E4 (E:Env) (s:TypeId) (x:V) (f:Nat):Option V :=
 match E.P.underlying s,x with
 | some (.struct fs),.agg cs=>match fs[f]? with
  | some fd=>part E.P fd.type cs fd.offset
  | none=>none
 | _,_=>none
def Fu (i:Int) (n:Nat):Option Nat :=
 match i with
 | .ofNat k=>if Nat.blt k n then some k else none
 | .negSucc _=>none
def indexAt (E:Env) (t:TypeId) (x ix:V):Option V :=
 match E.P.underlying t,ix with
 | some (.slice elem),.int _ n =>
  match x,E.P.info? elem with
  | .lst xs _,some inf=>match Fu n xs.length with
   | some i=>match xs[i]? with
    | some x=>if Nat.beq x.cells.length inf.size then some (.eptr xs i 0) else none
    | none=>none
   | none=>none
  | .ref b ver off len _,some inf=>match Fu n len with
   | some i=>some (.ptr b ver (off+i*inf.size))
   | none=>none
  | _,_=>none
 | some (.array len elem),.int _ n =>
  match x,E.P.info? elem,Fu n len with
  | .ptr b ver off,some inf,some i=>some (.ptr b ver (off+i*inf.size))
  | .eptr xs k j,some inf,some i=>some (.eptr xs k (j+i*inf.size))
  | .gptr g off,some inf,some i=>some (.gptr g (off+i*inf.size))
  | _,_,_=>none
 | _,_=>none
def Cn (E:Env) (t:TypeId) (x ix:V):Option V :=
 match E.P.underlying t,x,ix with
 | some (.array len elem),.agg cs,.int _ n =>
  match E.P.info? elem,Fu n len with
  | some inf,some i=>part E.P elem cs (i*inf.size)
  | _,_=>none
 | some .string,.str s,.int _ n =>
  match n with
  | .ofNat k=>match s[k]? with
   | some b=>some (.int .u8 b.toNat)
   | none=>none
  | .negSucc _=>none
 | _,_,_=>none
def CL (d:Nat):Option V->Option Nat
 | none=>some d
 | some (.int _ (.ofNat k))=>some k
 | _=>none
def JF (σ:St) (b ver off elem sz:Nat):Option Nat :=
 match σ.get b with
 | some (.blk cs ty ver' _)=>if Nat.beq ver ver'&&Nat.beq ty elem&&Nat.blt 0 sz&&Nat.ble off cs.length then some ((cs.length - off) / sz) else none
 | _=>none
def GY (E:Env) (elem:TypeId) (xs:List V):Bool :=
 match E.P.info? elem,xs with
 | some _,[]=>true
 | some inf,x :: _=>Nat.beq x.cells.length inf.size
 | none,_=>false
def sliceAt (E:Env) (t:TypeId) (x:V) (lo hi mx:Option V) (σ:St):Option V :=
 match E.P.underlying t,x with
 | some .string,.str s =>
  match mx,CL 0 lo,CL s.length hi with
  | none,some l,some h=>if Nat.ble l h&&Nat.ble h s.length then some (.str ((s.drop l).take (h - l))) else none
  | _,_,_=>none
 | some (.slice elem),.nilS =>
  match CL 0 lo,CL 0 hi,CL 0 mx with
  | some 0,some 0,some 0=>if GY E elem []&&(hi.isSome||mx.isNone) then some .nilS else none
  | _,_,_=>none
 | some (.slice elem),.emp =>
  match CL 0 lo,CL 0 hi,mx with
  | some 0,some 0,none=>if GY E elem [] then some .emp else none
  | _,_,_=>none
 | some (.slice elem),.lst xs full =>
  match CL 0 lo,CL xs.length hi,CL xs.length mx with
  | some l,some h,some m =>
   if Nat.ble l h&&Nat.ble h m&&Nat.ble m xs.length&&GY E elem xs&&(hi.isSome||mx.isNone) then
    some (.lst ((xs.drop l).take (h - l)) (Nat.beq h m&&(full||mx.isSome)))
   else none
  | _,_,_=>none
 | some (.slice elem),.ref b ver off len cap =>
  match E.P.info? elem with
  | some inf =>
   match (match cap with | some c=>some c | none=>JF σ b ver off elem inf.size),CL 0 lo,CL len hi with
   | some c,some l,some h=>match CL c mx with
    | some m =>
     if Nat.ble l h&&Nat.ble h m&&Nat.ble m c&&(hi.isSome||mx.isNone) then
      (if (cap.isSome||mx.isSome) then
        (if Nat.beq (m - l) 0 then some (.lst [] true) else some (.ref b ver (off+l*inf.size) (h - l) (some (m - l))))
      else some (.ref b ver (off+l*inf.size) (h - l) none))
     else none
    | none=>none
   | _,_,_=>none
  | none=>none
 | some (.array n elem),.ptr b ver off =>
  match E.P.info? elem with
  | some inf =>
   match CL 0 lo,CL n hi,CL n mx with
   | some l,some h,some m =>
    if Nat.ble l h&&Nat.ble h m&&Nat.ble m n&&Nat.blt l m&&(hi.isSome||mx.isNone) then some (.ref b ver (off+l*inf.size) (h - l) (some (m - l))) else none
   | _,_,_=>none
  | none=>none
 | _,_=>none
def El (place:Nat->Option (Nat×Nat)) (cs:List V):List (Nat×V)->Option (List V)
 | []=>some cs
 | (i,v) :: r=>match place i with
  | some (off,sz)=>if Nat.beq v.cells.length sz then
   match Ca cs off v.cells with
   | some cs'=>El place cs' r
   | none=>none
   else none
  | none=>none
def D5 (ev:Operand->Option V):List (Nat×Operand)->Option (List (Nat×V))
 | []=>some []
 | (i,x) :: r=>match ev x,D5 ev r with
  | some v,some vs=>some ((i,v) :: vs)
  | _,_=>none
def Ht (P:Program) (fs:List Field):Option (List (Nat×Nat)) :=
 match fs with
 | []=>some []
 | f :: r=>match P.info? f.type,Ht P r with
  | some i,some l=>some ((f.offset,i.size) :: l)
  | _,_=>none
def CD (E:Env) (t:TypeId) (ps:List (Nat×V)):Option V :=
 match Cm E.P t,E.P.underlying t with
 | some z,some (.struct fs)=>match Ht E.P fs.toList with
  | some places=>match El (λi=>places[i]?) z.cells ps with
   | some cs=>some (.agg cs)
   | none=>none
  | none=>none
 | some z,some (.array _ elem)=>match E.P.info? elem with
  | some i=>match El (λk=>some (k*i.size,i.size)) z.cells ps with
   | some cs=>some (.agg cs)
   | none=>none
  | none=>none
 | _,_=>none
def Cu (n:Nat) (z:List V):List V:=(List.replicate n z).flatten
def Dz (ty:TypeDesc) (sz:Nat):Nat->List V->Option (List V)
 | 0,_=>some []
 | n+1,cs =>
  let r:=cs.take sz
  if Nat.beq r.length sz then
   match (if Be ty then some (V.agg r) else match r with | [v]=>(if v.one then some v else none) | _=>none),Dz ty sz n (cs.drop sz) with
   | some v,some vs=>some (v :: vs)
   | _,_=>none
  else none
def Cq (E:Env) (t:TypeId) (len:Nat) (ps:List (Nat×V)) (σ:St):Option (V×St) :=
 match E.P.underlying t with
 | some (.slice elem)=>match E.P.info? elem,E.P.underlying elem,Cm E.P elem with
  | some i,some d,some z =>
   if Nat.beq i.size 0||Nat.blt 16777216 (len*i.size)||!Nat.beq z.cells.length i.size then none else
   match El (λk=>some (k*i.size,i.size)) (Cu len z.cells) ps with
   | some cs =>
    if E.wlit t then some (.ref σ.n 0 0 len (some len),σ.new (.blk cs elem 0 false))
    else match Dz d i.size len cs with
     | some xs=>some (.lst xs true,σ)
     | none=>none
   | none=>none
  | _,_,_=>none
 | _=>none
def Da (E:Env) (t:TypeId) (len cap:V) (σ:St):Option (V×St) :=
 match E.P.underlying t,len,cap with
 | some (.slice elem),.int .i64 (.ofNat l),.int .i64 (.ofNat c)=>match E.P.info? elem,Cm E.P elem with
  | some i,some z =>
   if Nat.ble l c&&Nat.ble (i.bytes*c) 140737488355328&&Nat.ble c 4294967296&&Nat.beq z.cells.length i.size&&Nat.blt 0 i.size then
    some (.ref σ.n 0 0 l (some c),σ.new (.blk (Cu c z.cells) elem 0 false))
   else none
  | _,_=>none
 | _,_,_=>none
def IP:List UInt8->List UInt8->Bool
 | _,[]=>false
 | [],_ :: _=>true
 | a :: x,b :: y=>Nat.blt a.toNat b.toNat||(Nat.beq a.toNat b.toNat&&IP x y)
def ED:List UInt8->List UInt8->Bool
 | [],[]=>true
 | a :: x,b :: y=>Nat.beq a.toNat b.toNat&&ED x y
 | _,_=>false
def DZ:IntKind->IntKind->Bool
 | .i8,.i8 | .i16,.i16 | .i32,.i32 | .i64,.i64 | .u8,.u8 | .u16,.u16 | .u32,.u32 | .u64,.u64=>true
 | _,_=>false
def Fv (op:BinOp) (k:IntKind) (x y:Int):Option V :=
 match op with
 | .add=>some (.int k (k.wrap (x+y)))
 | .sub=>some (.int k (k.wrap (x - y)))
 | .mul=>some (.int k (k.wrap (x*y)))
 | .quo=>if y==0 then none else some (.int k (k.wrap (x.tdiv y)))
 | .rem=>if y==0 then none else some (.int k (x.tmod y))
 | .and=>some (.int k (k.wrap (BitVec.ofInt k.bits x &&&BitVec.ofInt k.bits y).toNat))
 | .or=>some (.int k (k.wrap (BitVec.ofInt k.bits x |||BitVec.ofInt k.bits y).toNat))
 | .xor=>some (.int k (k.wrap (BitVec.ofInt k.bits x ^^^ BitVec.ofInt k.bits y).toNat))
 | .andNot=>some (.int k (k.wrap (BitVec.ofInt k.bits x &&&~~~ BitVec.ofInt k.bits y).toNat))
 | .eql=>some (.bool (x==y))
 | .neq=>some (.bool (x != y))
 | .lss=>some (.bool (decide (x<y)))
 | .leq=>some (.bool (decide (x<=y)))
 | .gtr=>some (.bool (decide (x>y)))
 | .geq=>some (.bool (decide (x≥y)))
 | _=>none
def Mv (op:BinOp) (k:IntKind) (x y:Int):Option V :=
 match op,y with
 | .shl,.ofNat n=>some (.int k (k.wrap (x*2 ^ (min n k.bits))))
 | .shr,.ofNat n=>some (.int k (x.fdiv (2 ^ (min n k.bits))))
 | _,_=>none
def K6 (op:BinOp) (x y:List UInt8):Option V :=
 match op with
 | .add=>if Nat.ble (x.length+y.length) 9223372036854775807 then some (.str (x++y)) else none
 | .eql=>some (.bool (ED x y))
 | .neq=>some (.bool (!ED x y))
 | .lss=>some (.bool (IP x y))
 | .leq=>some (.bool (IP x y||ED x y))
 | .gtr=>some (.bool (!(IP x y||ED x y)))
 | .geq=>some (.bool (!IP x y))
 | _=>none
def Fq:V->V->Option Bool
 | .bool a,.bool b=>some (a==b)
 | .int k a,.int k' b=>if DZ k k' then some (a==b) else none
 | .str a,.str b=>some (ED a b)
 | _,_=>none
def Fs:List V->List V->Option Bool
 | [],[]=>some true
 | a :: x,b :: y=>match Fq a b,Fs x y with
  | some p,some q=>some (p&&q)
  | _,_=>none
 | _,_=>none
def DX:TypeDesc->V->Bool
 | .int _,.int ..=>true
 | .string,.str _=>true
 | .bool,.bool _=>true
 | _,_=>false
def Sl (E:Env) (t:TypeId) (x y:V):Option Bool :=
 match E.P.info? t,E.P.underlying t with
 | some i,some d=>if i.comparable&&DX d x then Fq x y else none
 | _,_=>none
def eqV (E:Env) (t:TypeId) (x y:V) (σ:St):Option Bool :=
 match E.P.underlying t,x,y with
 | some .bool,.bool a,.bool b=>some (a==b)
 | some (.pointer _),.ptr0,.ptr0=>some true
 | some (.pointer _),.ptr0,.ptr .. | some (.pointer _),.ptr0,.eptr .. | some (.pointer _),.ptr0,.gptr ..=>some false
 | some (.pointer _),.ptr ..,.ptr0 | some (.pointer _),.eptr ..,.ptr0 | some (.pointer _),.gptr ..,.ptr0=>some false
 | some (.pointer e),.ptr b v o,.ptr b' v' o'=>match σ.get b,E.P.info? e with
  | some (.blk _ _ ver _),some inf=>if Nat.beq b b'&&Nat.beq v v'&&Nat.beq v ver&&Nat.blt 0 inf.size then some (Nat.beq o o') else none
  | _,_=>none
 | some (.map ..),.map0,.map0=>some true
 | some (.map ..),.map0,.map _ | some (.map ..),.map _,.map0=>some false
 | some (.func ..),.fn0,.fn0=>some true
 | some (.func ..),.fn0,.fn .. | some (.func ..),.fn ..,.fn0=>some false
 | some (.interface _),.if0,.ifc .. | some (.interface _),.ifc ..,.if0=>some false
 | some (.interface _),.ifc t x,.ifc u y=>if Nat.beq t u then Sl E t x y else some false
 | some (.slice _),.nilS,.nilS=>some true
 | some (.slice _),.nilS,.lst .. | some (.slice _),.nilS,.ref .. | some (.slice _),.lst ..,.nilS | some (.slice _),.ref ..,.nilS=>some false
 | _,_,_=>none
def JS (P:Program):List Field->List V->Bool
 | [],_=>true
 | f :: r,a :: cs=>(match P.underlying f.type with | some d=>DX d a | _=>false)&&f.name != "_" && JS P r cs
 | _,[]=>false
def JX (P:Program):List Field->Nat->Bool
 | [],_=>true
 | f :: r,k=>Nat.beq f.offset k&&JX P r (k+1)
def Ia (P:Program) (t:TypeId) (fs:Array Field) (cs:List V):Bool :=
 Nat.beq cs.length fs.size&&JS P fs.toList cs&&JX P fs.toList 0&&!P.stoodInHeld t&&!P.eqGuardType P.depth t
def DY (P:Program) (kt:TypeId) (a b:V):Option Bool :=
 match P.underlying kt,a,b with
 | some (.struct fs),.agg x,.agg y=>if Ia P kt fs x then Fs x y else none
 | some d,_,_=>if DX d a then Fq a b else none
 | none,_,_=>none
def EL (P:Program) (kt:TypeId) (k:V):List (V×V×Nat)->Nat->Option (Option (Nat×V×Nat))
 | [],_=>some none
 | (a,v,born) :: r,i=>match DY P kt k a with
  | some true=>some (some (i,v,born))
  | some false=>EL P kt k r (i+1)
  | none=>none
def Ik (E:Env) (t:TypeId) (m k:V) (ok:Bool) (σ:St):Option V :=
 match E.P.underlying t with
 | some (.map kt elem) =>
  let es:=match m with
   | .map0=>some []
   | .map b=>match σ.get b with | some (.map es _)=>some es | _=>none
   | _=>none
  match es with
  | some es=>match EL E.P kt k es 0,DY E.P kt k k with
   | some (some (_,v,_)),some true=>some (if ok then .tup [v,.bool true] else v)
   | some none,some true=>match Cm E.P elem with
    | some z=>some (if ok then .tup [z,.bool false] else z)
    | none=>none
   | _,_=>none
  | none=>none
 | _=>none
def setVal (es:List (V×V×Nat)) (i:Nat) (k v:V):List (V×V×Nat) :=
 match es,i with
 | [],_=>[]
 | (_,_,b) :: r,0=>(k,v,b) :: r
 | e :: r,i+1=>e :: setVal r i k v
def Im (E:Env) (t:TypeId) (m k v:V) (σ:St):Option St :=
 match E.P.underlying t,m with
 | some (.map kt _),.map b=>match σ.get b with
  | some (.map es clock)=>match EL E.P kt k es 0,DY E.P kt k k with
   | some (some (i,_,_)),some true=>some (σ.put b (.map (setVal es i k v) clock))
   | some none,some true=>some (σ.put b (.map (es++[(k,v,clock)]) (clock+1)))
   | _,_=>none
  | _=>none
 | _,_=>none
def MM (E:Env) (t:TypeId) (m k:V) (σ:St):Option (V×St) :=
 match E.P.underlying t,m with
 | some (.map kt elem),.map b=>match σ.get b with
  | some (.map es clock)=>match EL E.P kt k es 0,DY E.P kt k k with
   | some (some (i,v,born)),some true=>some (.tup [v,.int .i64 born],σ.put b (.map (setVal es i k v) clock))
   | some none,some true=>match Cm E.P elem with
    | some z=>some (.tup [z,.int .i64 clock],σ.put b (.map (es++[(k,z,clock)]) (clock+1)))
    | none=>none
   | _,_=>none
  | _=>none
 | _,_=>none
def Mt (es:List (V×V×Nat)) (born:Nat) (v:V):Option (List (V×V×Nat)) :=
 match es with
 | []=>none
 | (k,w,b) :: r=>if Nat.beq b born then some ((k,v,b) :: r) else match Mt r born v with
  | some r'=>some ((k,w,b) :: r')
  | none=>none
def Lp (m stamp v:V) (σ:St):Option St :=
 match m,stamp with
 | .map b,.int _ (.ofNat born)=>match σ.get b with
  | some (.map es clock)=>match Mt es born v with
   | some es'=>some (σ.put b (.map es' clock))
   | none=>none
  | _=>none
 | _,_=>none
def Oa (E:Env) (t:TypeId) (m k:V) (σ:St):Option St :=
 match E.P.underlying t,m with
 | some (.map kt _),.map b=>match σ.get b with
  | some (.map es clock)=>match EL E.P kt k es 0,DY E.P kt k k with
   | some (some (i,_,_)),some true=>some (σ.put b (.map (es.eraseIdx i) clock))
   | some none,some true=>some (σ.put b (.map es clock))
   | _,_=>none
  | _=>none
 | _,_=>none
def Dq (σ:St) (sz n:Nat):V->Option (List V)
 | .nilS | .emp=>if Nat.beq n 0 then some [] else none
 | .lst xs _=>if Nat.ble n xs.length then
  (let r:=((xs.take n).map V.cells).flatten
   if Nat.beq r.length (n*sz) then some r else none) else none
 | .ref b ver off len _=>match σ.get b with
  | some (.blk cs _ ver' _)=>if Nat.beq ver ver'&&Nat.ble n len&&Nat.ble (off+n*sz) cs.length then some ((cs.drop off).take (n*sz)) else none
  | _=>none
 | .str s=>if Nat.ble n s.length&&Nat.beq sz 1 then some ((s.take n).map λb=>.int .u8 b.toNat) else none
 | _=>none
def DH:V->Option Nat
 | .nilS | .emp=>some 0
 | .lst xs _=>some xs.length
 | .ref _ _ _ len _=>some len
 | .str s=>some s.length
 | _=>none
def Ha (zeros:Bool) (x:V):Option Nat :=
 if zeros then match x with
  | .int .i64 (.ofNat n)=>some n
  | _=>none
 else DH x
def Hr (zeros:Bool) (z:List V) (σ:St) (sz n:Nat) (x:V):Option (List V) :=
 if zeros then some (Cu n z) else Dq σ sz n x
def BO:List V->Bool
 | []=>true
 | v :: r=>v.one&&BO r
def ES (elem:TypeId) (sz l need:Nat) (new:List V) (s:V) (σ:St):Option (V×St) :=
 match s with
 | .nilS=>some (.ref σ.n 0 0 need none,σ.new (.blk new elem 0 false))
 | .lst _ true=>match Dq σ sz l s with
  | some old=>some (.ref σ.n 0 0 need none,σ.new (.blk (old++new) elem 0 false))
  | none=>none
 | .ref b ver off _ cap=>match σ.get b with
  | some (.blk cs ty ver' false) =>
   if Nat.beq ver ver' then
    match cap with
    | some c =>
     if Nat.ble need c then
      match Ca cs (off+l*sz) new with
      | some cs'=>some (.ref b ver off need cap,σ.put b (.blk cs' ty ver false))
      | none=>none
     else match Dq σ sz l s with
      | some old=>some (.ref σ.n 0 0 need none,σ.new (.blk (old++new) elem 0 false))
      | none=>none
    | none =>
     if !Nat.beq ty elem then none else
     if Nat.ble (off+need*sz) cs.length then
      match Ca cs (off+l*sz) new with
      | some cs'=>some (.ref b ver off need none,σ.put b (.blk cs' ty ver false))
      | none=>none
     else if !BO new then none else
      match Dq σ sz l s with
      | some old=>some (.ref b (ver+1) 0 need none,σ.put b (.blk (old++new) ty (ver+1) false))
      | none=>none
   else none
  | _=>none
 | _=>none
def KI (E:Env) (t:TypeId) (zeros:Bool) (s x:V) (σ:St):Option (V×St) :=
 match E.P.underlying t with
 | some (.slice elem)=>match E.P.info? elem,DH s,Ha zeros x,Cm E.P elem with
  | some inf,some l,some n,some z =>
   if !(Nat.blt 0 inf.size&&Nat.ble (l+n) 4294967296&&Nat.ble inf.bytes 16384&&Nat.beq z.cells.length inf.size) then none else
   match s with
   | .str _=>none
   | _ =>
    if Nat.beq n 0 then some (s,σ) else
    match Hr zeros z.cells σ inf.size n x with
    | none=>none
    | some new=>ES elem inf.size l (l+n) new s σ
  | _,_,_,_=>none
 | _=>none
def OQ (E:Env) (t:TypeId) (d x:V) (σ:St):Option (V×St) :=
 match E.P.underlying t with
 | some (.slice elem)=>match E.P.info? elem,DH d,DH x with
  | some inf,some l,some m =>
   let n:=min m l
   if Nat.beq n 0 then (match d with | .str _=>none | _=>some (.int .i64 0,σ)) else
   match Dq σ inf.size n x,d with
   | some new,.ref b ver off _ _=>match σ.get b with
    | some (.blk cs ty ver' false)=>if Nat.beq ver ver' then
     match Ca cs off new with
     | some cs'=>some (.int .i64 n,σ.put b (.blk cs' ty ver false))
     | none=>none
     else none
    | _=>none
   | _,_=>none
  | _,_,_=>none
 | _=>none
def OP (E:Env) (t:TypeId) (x:V) (σ:St):Option St :=
 match E.P.underlying t with
 | some (.slice elem)=>match E.P.info? elem,Cm E.P elem,DH x with
  | some _,some z,some l =>
   if Nat.beq l 0 then (match x with | .str _=>none | _=>some σ) else
   match x with
   | .ref b ver off _ _=>match σ.get b with
    | some (.blk cs ty ver' false)=>if Nat.beq ver ver' then
     match Ca cs off (Cu l z.cells) with
     | some cs'=>some (σ.put b (.blk cs' ty ver false))
     | none=>none
     else none
    | _=>none
   | _=>none
  | _,_,_=>none
 | _=>none
def JJ:List V->Option (List UInt8)
 | []=>some []
 | .int .u8 (.ofNat n) :: r=>match JJ r with
  | some l=>some (UInt8.ofNat n :: l)
  | none=>none
 | _=>none
def GW (E:Env) (src dst:TypeId) (x:V) (σ:St):Option V :=
 match E.P.underlying src,E.P.underlying dst,x with
 | some _,some (.int k),.int _ n=>some (.int k (k.wrap n))
 | some .string,some .string,.str s=>some (.str s)
 | some .string,some (.slice e),.str s=>match E.P.underlying e with
  | some (.int .u8)=>some (.lst (s.map λb=>.int .u8 b.toNat) false)
  | _=>none
 | some (.slice e),some .string,x=>match E.P.underlying e,E.P.info? e,DH x with
  | some (.int .u8),some inf,some n=>if Nat.beq inf.size 1 then
   match x with
   | .str _=>none
   | _=>match Dq σ 1 n x with
    | some r=>match JJ r with
     | some l=>some (.str l)
     | none=>none
    | none=>none
   else none
  | _,_,_=>none
 | some (.pointer t),some .unsafePointer,.ptr b ver off=>match σ.get b,E.P.info? t with
  | some (.blk cs _ ver' _),some inf=>if Nat.beq ver ver'&&Nat.blt off cs.length&&Nat.blt 0 inf.size then some (.ptr b ver off) else none
  | _,_=>none
 | some .unsafePointer,some (.pointer u),.ptr b 0 0=>match σ.get b,E.P.info? u with
  | some (.blk cs ty 0 _),some inf=>if Nat.beq ty u&&Nat.beq cs.length inf.size&&Nat.blt 0 inf.size then some (.ptr b 0 0) else none
  | _,_=>none
 | _,_,_=>none
def FB (E:Env) (src dst:TypeId):Bool :=
 match E.P.underlying src,E.P.underlying dst with
 | some (.slice _),some (.slice _)=>true
 | _,_=>false
def Io (E:Env) (src dst:TypeId) (x:V) (σ:St):Option (V×St) :=
 match E.P.underlying src with
 | some (.slice e)=>match E.P.underlying e,x with
  | some (.int .u8),.ref b ver off len (some c)=>match σ.get b with
   | some (.blk cs ty ver' false)=>if Nat.beq src dst&&Nat.beq ver ver'&&Nat.ble (E.P.cellsOf ty) 1 then some (.ref b ver off len (some c),σ.put b (.blk cs ty ver false)) else none
   | _=>none
  | _,_=>none
 | _=>none
def Gb (E:Env) (t:TypeId) (x:V) (σ:St):Option V :=
 match E.P.underlying t,x with
 | some .string,.str s=>some (.int .i64 s.length)
 | some (.slice _),.nilS | some (.slice _),.emp=>some (.int .i64 0)
 | some (.slice _),.lst xs _=>some (.int .i64 xs.length)
 | some (.slice _),.ref _ _ _ len _=>some (.int .i64 len)
 | some (.array n _),_=>some (.int .i64 n)
 | some (.map ..),.map0=>some (.int .i64 0)
 | some (.map ..),.map b=>match σ.get b with
  | some (.map es _)=>some (.int .i64 es.length)
  | _=>none
 | _,_=>none
def OL (E:Env) (t:TypeId) (x:V):Option V :=
 match E.P.underlying t,x with
 | some (.slice _),.nilS=>some (.int .i64 0)
 | some (.slice _),.lst xs true=>some (.int .i64 xs.length)
 | some (.slice _),.ref _ _ _ _ (some c)=>some (.int .i64 c)
 | some (.array n _),_=>some (.int .i64 n)
 | _,_=>none
def OY (E:Env) (t:TypeId) (x:V):Option V :=
 match E.P.underlying t,x with
 | some (.slice _),.nilS=>some .ptr0
 | some (.slice _),.ref b ver off (_+1) _=>some (.ptr b ver off)
 | _,_=>none
def QQ (E:Env) (t:TypeId) (p n:V) (σ:St):Option (V×St) :=
 match n,p with
 | .int .i64 (.ofNat 0),.ptr0 | .int .i64 (.ofNat 0),.ptr ..=>some (.str [],σ)
 | .int .i64 (.ofNat (n+1)),.ptr b ver off=>match E.P.underlying t,σ.get b with
  | some (.pointer e),some (.blk cs ty ver' _) =>
   if Nat.beq ver ver'&&Nat.beq e ty&&Nat.ble (off+(n+1)) cs.length&&Nat.ble n 4294967295&&(match E.P.underlying e,E.P.info? e with | some (.int .u8),some inf=>Nat.beq inf.size 1 | _,_=>false) then
    match JJ ((cs.drop off).take (n+1)) with
    | some l=>some (.str l,σ.put b (.blk cs ty ver true))
    | none=>none
   else none
  | _,_=>none
 | _,_=>none
def MQ:V->V->Option V
 | .int k x,.int k' y=>if DZ k k' then some (.int k (if y<x then y else x)) else none
 | _,_=>none
def MN:V->V->Option V
 | .int k x,.int k' y=>if DZ k k' then some (.int k (if y>x then y else x)) else none
 | _,_=>none
def Ib (f:V->V->Option V):V->List V->Option V
 | x,[]=>some x
 | x,y :: r=>match f x y with
  | some z=>Ib f z r
  | none=>none
def ET (E:Env) (op:BinOp) (t:TypeId) (x y:V) (σ:St):Option V :=
 match x,y with
 | .int k a,.int k' b =>
  match op with
  | .shl | .shr=>Mv op k a b
  | _=>if DZ k k' then Fv op k a b else none
 | .str a,.str b=>K6 op a b
 | .agg a,.agg b =>
  match E.P.underlying t with
  | some (.struct fs) =>
   if Ia E.P t fs a then
    match op,Fs a b with
    | .eql,some r=>some (.bool r)
    | .neq,some r=>some (.bool (!r))
    | _,_=>none
   else none
  | _=>none
 | _,_=>match op,eqV E t x y σ with
  | .eql,some r=>some (.bool r)
  | .neq,some r=>some (.bool (!r))
  | _,_=>none
def MG:Operand->Bool
 | .const _=>true
 | _=>false
def CW (E:Env) (op:BinOp) (t:TypeId) (x y:Operand) (a b:V) (σ:St):Option V :=
 match a,b with
 | .if0,.if0=>if MG x||MG y then (match E.P.underlying t,op with
  | some (.interface _),.eql=>some (.bool true)
  | some (.interface _),.neq=>some (.bool false)
  | _,_=>none) else none
 | a,b=>ET E op t a b σ
def unV (op:UnOp) (x:V):Option V :=
 match op,x with
 | .neg,.int k n=>some (.int k (k.wrap (0 - n)))
 | .xor,.int k n=>Fv .xor k (if k.signed then -1 else k.max) n
 | .not,.bool b=>some (.bool (!b))
 | _,_=>none
def Ct (ev:Operand->Option V):Option Operand->Option (Option V)
 | none=>some none
 | some x=>match ev x with
  | some v=>some (some v)
  | none=>none
def keep (σ:St):Option V->Option (V×St)
 | some v=>some (v,σ)
 | none=>none
def unit:Option St->Option (V×St)
 | some σ=>some (.tup [],σ)
 | none=>none
def Aq (E:Env) (ev:Operand->Option V) (o:Op) (σ:St):Option (V×St) :=
 match o with
 | .move x | .assign x=>keep σ (ev x)
 | .pick c a b=>match ev c with
  | some (.bool true)=>keep σ (ev a)
  | some (.bool false)=>keep σ (ev b)
  | _=>none
 | .alloc t=>match Cm E.P t with
  | some z=>some (.ptr σ.n 0 0,σ.new (.blk z.cells t 0 false))
  | none=>none
 | .box t x=>match ev x with
  | some v=>some (.ptr σ.n 0 0,σ.new (.blk v.cells t 0 false))
  | none=>none
 | .build t ps=>match D5 ev ps.toList with
  | some l=>keep σ (CD E t l)
  | none=>none
 | .buildSlice t len ps=>match D5 ev ps.toList with
  | some l=>Cq E t len l σ
  | none=>none
 | .load t a=>match ev a with
  | some p=>keep σ (loadAt E t p σ)
  | none=>none
 | .store t a x=>match ev a,ev x with
  | some p,some v=>unit (storeAt E t p v σ)
  | _,_=>none
 | .nilCheck x=>match ev x with
  | some (.ptr b v o)=>some (.ptr b v o,σ)
  | some (.eptr xs i j)=>some (.eptr xs i j,σ)
  | some (.gptr g o)=>some (.gptr g o,σ)
  | some (.fn f c)=>some (.fn f c,σ)
  | _=>none
 | .binOp op t x y _=>match ev x,ev y with
  | some a,some b=>keep σ (CW E op t x y a b σ)
  | _,_=>none
 | .unOp op _ x=>match ev x with
  | some v=>keep σ (unV op v)
  | none=>none
 | .convert s d x=>match ev x with
  | some v=>if FB E s d then Io E s d v σ else keep σ (GW E s d v σ)
  | none=>none
 | .makeInterface t x=>match ev x,E.P.underlying t with
  | some v,some d=>(match d with | .interface _=>none | _=>some (.ifc t v,σ))
  | _,_=>none
 | .makeFunc f first cap=>match f with
  | .func f=>if first.isEmpty then (match evs ev cap.toList with
   | some vs=>some (.fn f vs,σ)
   | none=>none) else none
  | _=>none
 | .makeMap t r=>match E.P.underlying t,Ct ev r with
  | some (.map ..),some none | some (.map ..),some (some (.int ..))=>some (.map σ.n,σ.new (.map [] 0))
  | _,_=>none
 | .makeSlice t l c=>match ev l,ev c with
  | some l,some c=>Da E t l c σ
  | _,_=>none
 | .slice t x lo hi mx=>match ev x,Ct ev lo,Ct ev hi,Ct ev mx with
  | some x,some lo,some hi,some mx=>keep σ (sliceAt E t x lo hi mx σ)
  | _,_,_,_=>none
 | .fieldAddr s x f=>match ev x with
  | some p=>keep σ (fieldAt E s p f)
  | none=>none
 | .field s x f=>match ev x with
  | some v=>keep σ (E4 E s v f)
  | none=>none
 | .indexAddr t x i=>match ev x,ev i with
  | some v,some i=>keep σ (indexAt E t v i)
  | _,_=>none
 | .index t x i=>match ev x,ev i with
  | some v,some i=>keep σ (Cn E t v i)
  | _,_=>none
 | .lookup t m k ok=>match ev m,ev k with
  | some m,some k=>keep σ (Ik E t m k ok σ)
  | _,_=>none
 | .mapUpdate t m k x | .insert t m k x=>match ev m,ev k,ev x with
  | some m,some k,some v=>unit (Im E t m k v σ)
  | _,_,_=>none
 | .mapEntry t m k=>match ev m,ev k with
  | some m,some k=>MM E t m k σ
  | _,_=>none
 | .entryStore _ m s x=>match ev m,ev s,ev x with
  | some m,some s,some v=>unit (Lp m s v σ)
  | _,_,_=>none
 | .extract t i=>match ev t with
  | some (.tup vs)=>keep σ vs[i]?
  | _=>none
 | _=>none
def DC (E:Env) (b:Builtin) (ts:List TypeId) (vs:List V) (σ:St):Option (V×St) :=
 match b,ts,vs with
 | .len,t :: _,[x]=>keep σ (Gb E t x σ)
 | .cap,t :: _,[x]=>keep σ (OL E t x)
 | .append,[t,u],[s,x]=>match E.P.underlying u with
  | some (.int _)=>KI E t true s x σ
  | some _=>KI E t false s x σ
  | none=>none
 | .copy,t :: _,[d,x]=>OQ E t d x σ
 | .delete,t :: _,[m,k]=>unit (Oa E t m k σ)
 | .clear,t :: _,[x]=>unit (OP E t x σ)
 | .unsafeSliceData,t :: _,[x]=>keep σ (OY E t x)
 | .unsafeString,t :: _,[p,n]=>QQ E t p n σ
 | .min,_,x :: r=>keep σ (Ib MQ x r)
 | .max,_,x :: r=>keep σ (Ib MN x r)
 | _,_,_=>none
abbrev Call:=FuncId->List V->St->Option (V×St)
def Fl (E:Env) (call:Call) (o:Oper) (fr:Fr) (σ:St):Option (Fr×St) :=
 match o.op with
 | .call c=>match evs fr.ev c.args.toList with
  | some vs =>
   let r:=match c.callee with
    | .builtin b=>DC E b c.argTypes.toList vs σ
    | .value f=>match fr.ev f with
     | some (.fn g cap)=>call g (vs++cap) σ
     | _=>none
    | .invoke ..=>none
   match r with
   | some (v,σ')=>match fr.put o.dst v with
    | some fr'=>some (fr',σ')
    | none=>none
   | none=>none
  | none=>none
 | .defer c=>match c.callee,evs fr.ev c.args.toList with
  | .value f,some vs=>match fr.ev f with
   | some (.fn g cap)=>match ({ fr with d:=(g,vs++cap) :: fr.d }: Fr).put o.dst (.tup []) with
    | some fr'=>some (fr',σ)
    | none=>none
   | _=>none
  | _,_=>none
 | op=>match Aq E fr.ev op σ with
  | some (v,σ')=>match fr.put o.dst v with
   | some fr'=>some (fr',σ')
   | none=>none
  | none=>none
def Ch (ops:List Oper) (o:Oper) (fr:Fr):Option Bool :=
 match o.guard with
 | none=>some true
 | some (j,want)=>match ops[j]? with
  | some p=>match p.dst with
   | some d=>match fr.t.get d with
    | some (.bool b)=>some (b==want)
    | some (.tup [])=>some false
    | _=>none
   | none=>none
  | none=>none
def CR (E:Env) (call:Call) (ops:List Oper) (o:Oper) (fr:Fr) (σ:St):Option (Fr×St) :=
 match Ch ops o fr with
 | some true=>Fl E call o fr σ
 | some false=>match fr.put o.dst (.tup []) with
  | some fr'=>some (fr',σ)
  | none=>none
 | none=>none
def CU (E:Env) (call:Call) (ops:List Oper):List Oper->Fr->St->Option (Fr×St)
 | [],fr,σ=>some (fr,σ)
 | o :: r,fr,σ=>match CR E call ops o fr σ with
  | some (fr',σ')=>CU E call ops r fr' σ'
  | none=>none
inductive AEx where
 | norm
 | exit (id:Nat)
 | ret
abbrev Run:=Fr->St->Option (AEx×Fr×St)
def GR (f:Run):Nat->Run
 | 0,_,_=>none
 | k+1,fr,σ=>match f fr σ with
  | some (.norm,fr',σ')=>GR f k fr' σ'
  | r=>r
def JL (σ:St):V->Option V
 | .ptr b ver off=>match σ.get b with
  | some (.blk cs _ ver' _)=>if Nat.beq ver ver' then cs[off]? else none
  | _=>none
 | _=>none
def Ez (o:Oper):Bool:=match o.op with
 | .defer _=>false
 | _=>true
def CE:Code->Bool
 | .region _ ops _=>ops.toList.all Ez
 | .seq a b | .cond _ a b=>CE a&&CE b
 | .block _ a | .loop a=>CE a
 | .rangeFunc ..=>false
 | _=>true
def RS:V->Option Nat
 | .nilS | .emp=>some 0
 | .lst xs _=>some xs.length
 | .ref _ _ _ len _=>some len
 | _=>none
def PN:Option V->Option V
 | some (.int κ n)=>some (.int κ n)
 | _=>none
def N7 (σ:St):V->Nat->Option V
 | .lst xs _,k=>PN xs[k]?
 | .ref b ver off len _,k=>if Nat.blt k len then match σ.get b with
  | some (.blk cs _ ver' _)=>if Nat.beq ver ver' then PN cs[off+k]? else none
  | _=>none
  else none
 | _,_=>none
def JC (rnd:Nat->V->St->Option St) (p:V):Nat->St->Option St
 | 0,σ=>some σ
 | k+1,σ=>match JL σ p with
  | some h=>match N7 σ h k with
   | some x=>match rnd k x σ with
    | some σ'=>JC rnd p k σ'
    | none=>none
   | none=>none
  | none=>none
def VE (fr:Fr) (ps:List Tmp) (k:Nat) (x:V):Option Fr :=
 match ps with
 | [p1,p2]=>match ({ fr with d:=[] }: Fr).put (some p1) (.int .i64 k) with
  | some f1=>f1.put (some p2) x
  | none=>none
 | _=>none
def Np (assign body:Run) (fr:Fr) (ps:List Tmp) (k:Nat) (x:V) (σ:St):Option St :=
 match VE fr ps k x with
 | some f1=>match assign f1 σ with
  | some (.norm,f2,σ2)=>match body f2 σ2 with
   | some (.norm,_,σ3)=>some σ3
   | _=>none
  | _=>none
 | none=>none
def IJ (E:Env) (Cy:Bool) (assign body:Run) (g:Option V) (ps:List Tmp) (fr:Fr) (σ:St):Option (AEx×Fr×St) :=
 match g with
 | some (.fn f [p])=>if E.back f&&Cy then match JL σ p with
  | some h=>match RS h with
   | some n=>if Nat.blt n 4294967296 then match JC (Np assign body fr ps) p n σ with
    | some σ'=>some (.norm,fr,σ')
    | none=>none
    else none
   | none=>none
  | none=>none
  else none
 | _=>none
def BL (E:Env) (call:Call) (draw:List Oper->Fr->St->Option (Fr×St)) (k:Nat):Code->Run
 | .skip,fr,σ | .label _,fr,σ=>some (.norm,fr,σ)
 | .region _ ops d,fr,σ=>match (if d then draw ops.toList fr σ else CU E call ops.toList ops.toList fr σ) with
  | some (fr',σ')=>some (.norm,fr',σ')
  | none=>none
 | .seq a b,fr,σ=>match BL E call draw k a fr σ with
  | some (.norm,fr',σ')=>BL E call draw k b fr' σ'
  | r=>r
 | .cond c x y,fr,σ=>match fr.ev c with
  | some (.bool true)=>BL E call draw k x fr σ
  | some (.bool false)=>BL E call draw k y fr σ
  | _=>none
 | .block id b,fr,σ=>match BL E call draw k b fr σ with
  | some (.exit i,fr',σ')=>if Nat.beq i id then some (.norm,fr',σ') else some (.exit i,fr',σ')
  | r=>r
 | .loop b,fr,σ=>GR (BL E call draw k b) k fr σ
 | .exit id,fr,σ=>some (.exit id,fr,σ)
 | .ret,fr,σ=>some (.ret,fr,σ)
 | .rangeFunc g ps assign body,fr,σ=>IJ E (CE assign&&CE body) (BL E call draw k assign) (BL E call draw k body) (fr.ev g) ps.toList fr σ
 | _,_,_=>none
def Jn (E:Env) (fr:Fr) (σ:St):ResultVar->Option V
 | .tmp t=>fr.t.get t
 | .cell a t=>match fr.t.get a with
  | some p=>loadAt E t p σ
  | none=>none
def EJ (E:Env) (fr:Fr) (σ:St):List ResultVar->Option (List V)
 | []=>some []
 | r :: rs=>match Jn E fr σ r,EJ E fr σ rs with
  | some v,some vs=>some (v :: vs)
  | _,_=>none
def JD (call:Call):List (FuncId×List V)->St->Option St
 | [],σ=>some σ
 | (f,vs) :: r,σ=>match call f vs σ with
  | some (_,σ')=>JD call r σ'
  | none=>none
def Fp (vs:List V):Nat->PT V->PT V:=λi t=>match vs with
 | []=>t
 | v :: r=>Fp r (i+1) (t.set i v)
def Jp (E:Env) (call dcall:Call) (draw:List Oper->Fr->St->Option (Fr×St)) (k:Nat) (fn:Func) (c:Code) (vs:List V) (σ:St):Option (V×St) :=
 match BL E call draw k c { t:=Fp vs 0 .leaf,n:=vs.length+(fn.ntmps - vs.length),d:=[] } σ with
 | some (.norm,fr,σ') | some (.ret,fr,σ')=>match JD dcall fr.d σ' with
  | some σ''=>match EJ E fr σ'' fn.results.toList with
   | some [v]=>some (v,σ'')
   | some l=>some (.tup l,σ'')
   | none=>none
  | none=>none
 | _=>none
def VK (E:Env) (call:Call) (draw:List Oper->Fr->St->Option (Fr×St)) (k:Nat) (fn:Func) (c:Code) (vs:List V) (σ:St):Option (V×St) :=
 match BL E call draw k c { t:=Fp vs 0 .leaf,n:=vs.length+(fn.ntmps - vs.length),d:=[] } σ with
 | some (.norm,fr,σ') | some (.ret,fr,σ')=>match fr.d,EJ E fr σ' fn.results.toList with
  | [],some [v]=>some (v,σ')
  | [],some l=>some (.tup l,σ')
  | _,_=>none
 | _=>none
def frz (E:Env) (σ:St):Nat->V->Option V
 | 0,_=>none
 | n+1,v =>
  let all:List V->Option (List V):=λl=>l.mapM (frz E σ n)
  match v with
  | .nilS | .lst [] _=>some .emp
  | .lst xs _=>match all xs with
   | some ys=>some (.lst ys false)
   | none=>none
  | .agg cs=>match all cs with
   | some ys=>some (.agg ys)
   | none=>none
  | .tup vs=>match all vs with
   | some ys=>some (.tup ys)
   | none=>none
  | .ifc t x=>match frz E σ n x with
   | some y=>some (.ifc t y)
   | none=>none
  | .ref b ver off len _=>match σ.get b with
   | some (.blk cs ty ver' _)=>match E.P.info? ty,E.P.underlying ty with
    | some i,some d =>
     if Nat.beq ver ver'&&Nat.blt 0 i.size&&Nat.ble (off+len*i.size) cs.length then
      match Dz d i.size len (cs.drop off) with
      | some []=>some .emp
      | some xs=>match all xs with
       | some ys=>some (.lst ys false)
       | none=>none
      | none=>none
     else none
    | _,_=>none
   | _=>none
  | .ptr .. | .eptr .. | .gptr .. | .map _ | .fn ..=>some .opq
  | v=>some v
def D4:Nat:=64
def P5 (E:Env) (body:List V->St->Option (V×St)) (vs:List V):Option V :=
 match body vs St.empty with
 | some (v,σ')=>if Nat.beq v.kind 0 then some v else frz E σ' D4 v
 | none=>none
def V.beq:V->V->Bool
 | .bool a,.bool b=>a==b
 | .int k a,.int k' b=>DZ k k'&&a==b
 | .str a,.str b=>ED a b
 | .nilS,.nilS | .emp,.emp=>true
 | .lst xs f,.lst ys g=>beqs xs ys&&f==g
 | .ref b v o l c,.ref b' v' o' l' c'=>Nat.beq b b'&&Nat.beq v v'&&Nat.beq o o'&&Nat.beq l l'&&(match c,c' with | none,none=>true | some x,some y=>Nat.beq x y | _,_=>false)
 | .ptr0,.ptr0 | .map0,.map0 | .fn0,.fn0 | .if0,.if0 | .opq,.opq=>true
 | .ptr b v o,.ptr b' v' o'=>Nat.beq b b'&&Nat.beq v v'&&Nat.beq o o'
 | .map b,.map b'=>Nat.beq b b'
 | .fn f c,.fn g d=>Nat.beq f g&&beqs c d
 | .ifc t x,.ifc u y=>Nat.beq t u&&x.beq y
 | .agg a,.agg b=>beqs a b
 | .tup a,.tup b=>beqs a b
 | .eptr xs i j,.eptr ys i' j'=>Nat.beq i i'&&Nat.beq j j'&&beqs xs ys
 | .gptr g o,.gptr g' o'=>Nat.beq g g'&&Nat.beq o o'
 | _,_=>false
  where beqs:List V->List V->Bool
 | [],[]=>true
 | x :: xs,y :: ys=>x.beq y&&beqs xs ys
 | _,_=>false
def Am (E:Env) (o:Oper):Nat :=
 match o.op with
 | .alloc _=>if o.guard.isNone&&o.dst.isSome then 3 else 2
 | .makeMap _ none=>if o.guard.isNone&&o.dst.isSome then 3 else 2
 | .makeSlice .. | .box ..=>if o.guard.isNone&&o.dst.isSome&&E.late o then 3 else 2
 | .move _ | .build ..=>if o.guard.isNone&&o.dst.isSome&&E.late o then 3 else 0
 | .assign _ | .pick .. | .nilCheck _ | .unOp .. | .makeInterface .. | .makeFunc .. | .fieldAddr .. | .field .. | .indexAddr .. | .index .. | .extract ..=>0
 | .binOp _ t _ _ _=>match E.P.underlying t with | some (.pointer _)=>1 | _=>0
 | .load .. | .lookup .. | .slice ..=>1
 | .convert s d _=>if FB E s d then 2 else 1
 | .buildSlice t ..=>if E.wlit t then 2 else 0
 | .call c=>match c.callee with
  | .builtin .len | .builtin .cap=>1
  | .builtin .min | .builtin .max=>0
  | _=>2
 | .defer _ | .go _ | .select ..=>4
 | _=>2
def Oj (tab:PT Nat) (e:Edge):Nat :=
 2 ^ e.on |||(match tab.get e.on with | some m=>m | none=>0)
def He (tab:PT Nat):List Edge->Nat
 | []=>0
 | e :: r=>if Region.binds .any e then Oj tab e |||He tab r else He tab r
def EY:List Oper->Nat->PT Nat->List Nat
 | [],_,_=>[]
 | o :: r,i,tab=>He tab o.after.toList :: EY r (i+1) (tab.set i (He tab o.after.toList))
def Ba (ops:List Oper):List (Oper×Nat):=ops.zip (EY ops 0 .leaf)
def BU (E:Env):List (Oper×Nat)->Nat->List (Nat×Nat)
 | [],_=>[]
 | (o,m) :: r,i=>if Nat.beq (Am E o) 2 then (i,m) :: BU E r (i+1) else BU E r (i+1)
def KX:List (Nat×Nat)->Bool
 | []=>true
 | [_]=>true
 | (i,_) :: (j,m) :: r=>m.testBit i&&KX ((j,m) :: r)
def Ck (m:Nat):List (Nat×Nat)->Nat
 | []=>0
 | (e,_) :: r=>if m.testBit e then 1+Ck m r else 0
def Co (i:Nat):List (Nat×Nat)->Nat
 | []=>0
 | (_,m) :: r=>if m.testBit i then 0 else 1+Co i r
def Gx:List Oper->Nat->Bool
 | [],_=>true
 | o :: r,i=>(o.after.toList.all λe=>!Region.binds .any e||Nat.blt e.on i)&&Gx r (i+1)
def Gl:List Oper->Nat->PT Nat->Option (PT Nat)
 | [],_,t=>some t
 | o :: r,i,t=>match o.dst with
  | none=>Gl r (i+1) t
  | some d=>match t.get d with
   | some _=>none
   | none=>Gl r (i+1) (t.set d i)
def GA (wr:PT Nat) (m:Nat) (x:Operand):Bool :=
 match x with
 | .tmp t=>match wr.get t with
  | some i=>m.testBit i
  | none=>true
 | _=>true
def PE (ops:List Oper) (wr:PT Nat) (m:Nat) (o:Oper):Bool :=
 match o.guard with
 | none=>true
 | some (j,_)=>match ops[j]? with
  | some p=>match p.dst with
   | some d=>GA wr m (.tmp d)
   | none=>true
  | none=>true
def Mj (E:Env) (wr:PT Nat) (om:List (Oper×Nat)) (k m:Nat) (x:Operand):Bool :=
 match x with
 | .tmp t=>match wr.get t with
  | some i=>m.testBit i||(match om[i]? with
   | some (o',m')=>m'.testBit k&&Nat.blt (Am E o') 3
   | none=>false)
  | none=>true
 | _=>true
def Kv (E:Env) (ops:List Oper) (om:List (Oper×Nat)) (wr:PT Nat):List (Oper×Nat)->Nat->Bool
 | [],_=>true
 | (o,m) :: r,k=>o.op.operands.toList.all (Mj E wr om k m)&&PE ops wr m o&&Kv E ops om wr r (k+1)
def RD (E:Env) (ops:List Oper) (wr:PT Nat) (p:Oper×Nat):Bool :=
 !Nat.beq (Am E p.1) 3||p.1.op.operands.toList.all λx=>match x with
  | .tmp t=>match wr.get t with
   | some j=>p.2.testBit j&&(match ops[j]? with | some q=>Nat.beq (Am E q) 3 | none=>false)
   | none=>true
  | _=>true
def E6 (md:Region.Mode):List Edge->Nat
 | []=>0
 | e :: r=>bif Region.binds md e then Nat.lor (Nat.pow 2 e.on) (E6 md r) else E6 md r
def Hg (md:Region.Mode):List Oper->Nat->Nat->Nat
 | [],_,s=>s
 | o :: r,i,s=>bif Nat.beq (Nat.land (E6 md o.after.toList) s) (E6 md o.after.toList) then Hg md r (Nat.add i 1) (Nat.lor s (Nat.pow 2 i)) else Hg md r (Nat.add i 1) s
def Iy (md:Region.Mode) (ops:List Oper) (full:Nat):Nat->Nat->Bool
 | 0,_=>false
 | k+1,s=>bif Nat.beq (Hg md ops 0 s) full then true else Iy md ops full k (Hg md ops 0 s)
def QM (ops:List Oper):Bool:=ops.all λo=>o.after.toList.all λe=>Region.binds .any e
def Kw (E:Env) (ops:List Oper):Bool :=
 let om:=Ba ops
 Gx ops 0&&(match Gl ops 0 .leaf with | some wr=>Kv E ops om wr om 0&&om.all (RD E ops wr) | none=>false)&&KX (BU E om 0)&&(ops.all λo=>Nat.blt (Am E o) 4) &&
  (QM ops||(Iy .text ops (Nat.sub (Nat.pow 2 ops.length) 1) ops.length 0&&Iy .gc ops (Nat.sub (Nat.pow 2 ops.length) 1) ops.length 0))
def EF (E:Env):Code->Bool
 | .region _ ops true=>Kw E ops.toList
 | .seq a b | .cond _ a b=>EF E a&&EF E b
 | .block _ a | .loop a=>EF E a
 | .rangeFunc _ _ a b=>EF E a&&EF E b
 | _=>true
structure Ex where
 o:Oper
 fr:Fr
 v:V
 hi:Nat
structure DS where
 fr:Fr
 past:List St
 t:Nat
 pend:List Ex
def Gf (E:Env) (o:Oper) (fr:Fr) (σ:St):Option V :=
 match o.op with
 | .call c=>match c.callee,evs fr.ev c.args.toList with
  | .builtin b,some vs=>match DC E b c.argTypes.toList vs σ with
   | some (v,_)=>some v
   | none=>none
  | _,_=>none
 | op=>match Aq E fr.ev op σ with
  | some (v,_)=>some v
  | none=>none
def Df (E:Env) (p:Ex) (σ:St):Bool :=
 match Gf E p.o p.fr σ with
 | some v=>V.beq p.v v
 | none=>false
def E8 (E:Env) (p:Ex) (lo:Nat):Nat->List St->Bool
 | _,[]=>true
 | t,σ :: r=>if Nat.blt t lo then true else Df E p σ&&(match t with | 0=>true | t+1=>E8 E p lo t r)
def HV (E:Env):List Oper->Fr->St->Option (Fr×St)
 | [],fr,σ=>some (fr,σ)
 | o :: r,fr,σ =>
  if Nat.beq (Am E o) 3 then
   match Aq E fr.ev o.op σ with
   | some (v,σ')=>match fr.put o.dst v with
    | some fr'=>HV E r fr' σ'
    | none=>none
   | none=>none
  else HV E r fr σ
def DE (E:Env) (call:Call) (ops:List Oper) (effs:List (Nat×Nat)) (i:Nat) (o:Oper) (m:Nat) (d:DS):Option DS :=
 match d.past,Am E o with
 | _,3=>some d
 | σ :: ps,2=>match CR E call ops o d.fr σ with
  | some (fr',σ')=>if d.pend.all (λp=>Nat.blt p.hi (d.t+1)||Df E p σ') then some { fr:=fr',past:=σ' :: σ :: ps,t:=d.t+1,pend:=d.pend } else none
  | none=>none
 | σ :: ps,1=>match Ch ops o d.fr with
  | some false=>match d.fr.put o.dst (.tup []) with
   | some fr'=>some { d with fr:=fr' }
   | none=>none
  | some true=>match Gf E o d.fr σ with
   | some v=>match d.fr.put o.dst v with
    | some fr' =>
     let p:Ex:={ o,fr:=d.fr,v,hi:=Co i effs }
     if E8 E p (Ck m effs) d.t (σ :: ps) then some { d with fr:=fr',pend:=p :: d.pend } else none
    | none=>none
   | none=>none
  | none=>none
 | σ :: _,0=>match CR E call ops o d.fr σ with
  | some (fr',_)=>some { d with fr:=fr' }
  | none=>none
 | _,_=>none
def Ei (E:Env) (call:Call) (ops:List Oper) (effs:List (Nat×Nat)):List (Oper×Nat)->Nat->DS->Option DS
 | [],_,d=>some d
 | (o,m) :: r,i,d=>match DE E call ops effs i o m d with
  | some d'=>Ei E call ops effs r (i+1) d'
  | none=>none
def Cw (E:Env) (call:Call) (ops:List Oper) (fr:Fr) (σ:St):Option (Fr×St) :=
 let om:=Ba ops
 match HV E ops fr σ with
 | some (fr1,σ1)=>match Ei E call ops (BU E om 0) om 0 { fr:=fr1,past:=[σ1],t:=0,pend:=[] } with
  | some d=>match d.past with
   | σ' :: _=>some (d.fr,σ')
   | []=>none
  | none=>none
 | none=>none
def Kz (σ:St) (p v:V):Option St :=
 match p with
 | .ptr b ver off=>match σ.get b with
  | some (.blk cs ty ver' false)=>if Nat.beq ver ver'&&Nat.blt off cs.length&&v.one then some (σ.put b (.blk (cs.set off v) ty ver' false)) else none
  | _=>none
 | _=>none
def D3 (c:Int):List UInt8->Nat
 | []=>0
 | b :: r=>if (b.toNat:Int)==c then 1+D3 c r else D3 c r
def KY (c:Int):List UInt8->Nat->Int
 | [],_=>-1
 | b :: r,i=>if (b.toNat:Int)==c then (i:Int) else KY c r (i+1)
def JT:List UInt8->List UInt8->Bool
 | [],_=>true
 | _ :: _,[]=>false
 | a :: x,b :: y=>bif Nat.beq a.toNat b.toNat then JT x y else false
def Dm (sub:List UInt8):List UInt8->Nat->Int
 | [],i=>bif sub.isEmpty then Int.ofNat i else -1
 | b :: r,i=>bif JT sub (b :: r) then Int.ofNat i else Dm sub r (Nat.add i 1)
def MU (σ:St) (k:IntKind) (p:V):Option Int :=
 match p with
 | .ptr b ver off=>match σ.get b with
  | some (.blk cs _ ver' false)=>if Nat.beq ver ver' then (match cs[off]? with
   | some (.int k' n)=>if DZ k k' then some n else none
   | _=>none) else none
  | _=>none
 | _=>none
def eU (elem:TypeId) (sz:Nat) (s x:V) (i:Nat) (σ:St):Option (V×St) :=
 match DH s,x with
 | some n,.lst (y :: ys) full=>match Dq σ sz (ys.length+1) (.lst (y :: ys) full) with
  | some new=>if Nat.ble (n+(ys.length+1)) 4294967296 then
   if Nat.beq i n then (match s with | .str _=>none | s=>ES elem sz n (n+(ys.length+1)) new s σ) else
   match s with
   | .ref b ver off _ none=>match σ.get b with
    | some (.blk cs ty ver' false) =>
     if Nat.beq ver ver'&&Nat.beq ty elem&&Nat.blt i n&&Nat.ble (off+n*sz) cs.length&&BO new&&BO ((cs.drop off).take (n*sz)) then
      some (.ref b (ver+1) 0 (n+(ys.length+1)) none,σ.put b (.blk ((cs.drop off).take (i*sz)++(new++(cs.drop (off+i*sz)).take ((n - i)*sz))) ty (ver+1) false))
     else none
    | _=>none
   | _=>none
   else none
  | none=>none
 | _,_=>none
def JE (e:Ext) (vs:List V) (σ:St):Option (V×St) :=
 match e,vs with
 | .load k,[p]=>match JL σ p with
  | some (.int k' n)=>if DZ k k' then some (.int k' n,σ) else none
  | _=>none
 | .store,[p,.int k n]=>unit (Kz σ p (.int k n))
 | .cas k,[p,.int k1 old,.int k2 new]=>match MU σ k p with
  | some n=>if DZ k k1&&DZ k k2 then
   if n==old then match Kz σ p (.int k new) with
    | some σ'=>some (.bool true,σ')
    | none=>none
   else some (.bool false,σ)
   else none
  | none=>none
 | .add k,[p,.int k1 y]=>match MU σ k p with
  | some n=>if DZ k k1 then
   match Kz σ p (.int k (k.wrap (n+y))) with
   | some σ'=>some (.int k (k.wrap (n+y)),σ')
   | none=>none
   else none
  | none=>none
 | .nothing,[]=>some (.tup [],σ)
 | .mark,[.ptr ..]=>some (.tup [],σ)
 | .same,[x]=>some (x,σ)
 | .makeNoZero elem,[.int .i64 (.ofNat n)]=>if Nat.ble n 4294967296&&Nat.blt 0 n then some (.ref σ.n 0 0 n none,σ.new (.blk (List.replicate n .opq) elem 0 false)) else none
 | .countStr,[.str s,.int .u8 (.ofNat c)]=>if Nat.blt c 256 then some (.int .i64 (D3 c s),σ) else none
 | .indexByteStr,[.str s,.int .u8 (.ofNat c)]=>if Nat.blt c 256 then some (.int .i64 (KY c s 0),σ) else none
 | .insert elem sz,[s,.int .i64 (.ofNat i),x]=>eU elem sz s x i σ
 | .indexStr _,[.str s,.str t]=>if Nat.blt s.length 4294967281 then some (.int .i64 (Dm t s 0),σ) else none
 | _,_=>none
def Bd (E:Env) (σ:St):List V->Option (List V)
 | []=>some []
 | v :: r=>match (bif Nat.beq v.kind 0 then some v else frz E σ D4 v),Bd E σ r with
  | some x,some xs=>some (x :: xs)
  | _,_=>none
def Lm (body:List V->St->Option (V×St)) (vs:List V) (σ:St):Option V :=
 match body vs { σ with tch:=σ.n } with
 | some (v,σ')=>if Nat.ble σ.n σ'.tch&&v.under σ.n then some v else none
 | none=>none
def V.isEmp:V->Bool
 | .nilS | .emp | .lst [] _=>true
 | _=>false
def QK (body:List V->St->Option (V×St)) (σ:St):Option (V×St) :=
 match Lm body [.nilS] σ,Lm body [.lst [] false] σ with
 | some a,some b=>if a.isEmp&&b.isEmp then some (.emp,σ) else none
 | _,_=>none
def Ja (b:Bool):List V->Bool
 | [.emp]=>b
 | _=>false
def OJ (E:Env) (call:Call) (k:Nat):Call:=λf vs σ =>
 match E.extn f,E.P.funcs[f]? with
 | none,some fn=>match fn.body with
  | some c=>if CE c then VK E call (Cw E call) k fn c vs σ else none
  | none=>none
 | _,_=>none
end SS
