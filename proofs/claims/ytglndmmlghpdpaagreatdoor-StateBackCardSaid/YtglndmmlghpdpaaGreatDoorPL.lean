/-
  part 12 of the proof; no condition.
-/
import Derived.Test.YtglndmmlghpdpaaGreatDoorPK
import Derived.OpenShut
namespace Go.Proofs.YtglndmmlghpdpaaGreatDoor
open Go Go.ChangeShapes Go.WideShapes Go.ChangeAt Go.RowKit
theorem TJ {f:Nat} {e:SS.Ext} (he:env.extn f=some e):(f,e)∈[(108,SS.Ext.same),(109,.makeNoZero 5),(117,.countStr),(118,.indexStr 6)]:=SS.PT.ofL_mem _ he
theorem idx {W:World} (hsh:W.ShapedOpen Tryz.prog) (f g:Nat) (h:env.extn f=some (.indexStr g)): ∃ cs' t fr m,W.heap[g]? = some (.cells cs' t fr)∧cs'[0]? = some (.int .i64 m):=by
 have hm:=TJ h
 simp at hm
 obtain ⟨_,rfl⟩:=hm
 obtain ⟨m,hm⟩:=cell_of_shapedOpen_int (P:=Tryz.prog) (g:=6) (t:=3) (zero:=#[.int .i64 0]) hsh (of_decide_eq_true (by kernel_rfl)) (by kernel_rfl) rfl (by kernel_rfl) (by kernel_rfl) (by kernel_rfl)
 obtain ⟨cs,t,fr,h1,h2⟩:=SS.ZR hm
 exact ⟨cs,t,fr,m,h1,h2⟩
theorem Ar:SS.El env where
 code:=SS.ZZ (by kernel_rfl)
 ext:=by
  intro f e he
  have hm:=TJ he
  simp only [List.mem_cons,List.not_mem_nil,or_false,Prod.mk.injEq] at hm
  rcases hm with ⟨rfl,rfl⟩ | ⟨rfl,rfl⟩ | ⟨rfl,rfl⟩ | ⟨rfl,rfl⟩
  ·exact ⟨fun _ h=>(by cases h),fun _ _ h=>(by cases h),fun _ _ _=>⟨Tryz.f108,_,Tryz.func108,by kernel_rfl,by kernel_rfl,by kernel_rfl,(show Extern.find Tryz.f108=some Extern.AbiNoEscape.same by kernel_rfl),fun _ _ _=>rfl⟩⟩
  ·exact ⟨fun _ h=>(by cases h),fun _ _ h=>(by cases h),fun _ _ _=>⟨Tryz.f109,Extern.BytealgMakeNoZero.makeNoZero #[3] #[102],Tryz.func109,by kernel_rfl,by kernel_rfl,by kernel_rfl,by kernel_rfl,#[3],102,by kernel_rfl,by kernel_rfl,rfl⟩⟩
  ·exact ⟨fun _ h=>(by cases h),fun _ _ h=>(by cases h),fun _ _ _=>⟨Tryz.f117,_,Tryz.func117,by kernel_rfl,by kernel_rfl,by kernel_rfl,by kernel_rfl,rfl⟩⟩
  ·exact ⟨fun g h=>(by cases h;exact eX),fun _ _ h=>(by cases h),fun _ h _=>absurd rfl (h _)⟩
 back:=fun f h=>by cases h
end Go.Proofs.YtglndmmlghpdpaaGreatDoor
