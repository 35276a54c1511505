/-
  part 12 of the proof; no condition.
-/
import Derived.Test.YtglndmmlghpdpaaGreatDoorPK
import Derived.OpenShut
namespace Go.Proofs.YtglndmmlghpdpaaGreatDoor
open Go Go.ChangeShapes Go.WideShapes Go.ChangeAt Go.RowKit
theorem Sv {f:Nat} {e:SS.Ext} (he:env.extn f=some e):(f,e)∈[(108,SS.Ext.same),(109,.makeNoZero 5),(117,.countStr),(118,.indexStr 6)]:=SS.PT.ofL_mem _ he
theorem idx {W:World} (hsh:W.ShapedOpen Tryz.prog) (f g:Nat) (h:env.extn f=some (.indexStr g)): ∃ cs' t fr m,W.heap[g]? = some (.cells cs' t fr)/\cs'[0]? = some (.int .i64 m):=by
 have hm:=Sv h;simp at hm;obtain ⟨_,rfl⟩:=hm;obtain ⟨m,hm⟩:=cell_of_shapedOpen_int (P:=Tryz.prog) (g:=6) (t:=3) (zero:=#[.int .i64 0]) hsh (of_decide_eq_true (by kernel_rfl)) (by kernel_rfl) rfl (by kernel_rfl) (by kernel_rfl) (by kernel_rfl);obtain ⟨cs,t,fr,h1,h2⟩:=SS.ZR hm;exact ⟨cs,t,fr,m,h1,h2⟩
theorem Ar:SS.Eg env where
 code:=SS.ZV (by kernel_rfl)
 ext:=by
  intro f e he;have hm:=Sv he;simp only [List.mem_cons,List.not_mem_nil,or_false,Prod.mk.injEq] at hm;rcases hm with ⟨rfl,rfl⟩ | ⟨rfl,rfl⟩ | ⟨rfl,rfl⟩ | ⟨rfl,rfl⟩
  ·exact ⟨λ_ h=>(by cases h),λ_ _ h=>(by cases h),λ_ _ _=>⟨Tryz.f108,_,Tryz.func108,by kernel_rfl,by kernel_rfl,by kernel_rfl,(show Extern.find Tryz.f108=some Extern.AbiNoEscape.same by kernel_rfl),λ_ _ _=>rfl⟩⟩
  ·exact ⟨λ_ h=>(by cases h),λ_ _ h=>(by cases h),λ_ _ _=>⟨Tryz.f109,Extern.BytealgMakeNoZero.makeNoZero #[3] #[102],Tryz.func109,by kernel_rfl,by kernel_rfl,by kernel_rfl,by kernel_rfl,#[3],102,by kernel_rfl,by kernel_rfl,rfl⟩⟩
  ·exact ⟨λ_ h=>(by cases h),λ_ _ h=>(by cases h),λ_ _ _=>⟨Tryz.f117,_,Tryz.func117,by kernel_rfl,by kernel_rfl,by kernel_rfl,by kernel_rfl,rfl⟩⟩
  ·exact ⟨λg h=>(by cases h;exact eF),λ_ _ h=>(by cases h),λ_ h _=>absurd rfl (h _)⟩
 back:=λf h=>by cases h
end Go.Proofs.YtglndmmlghpdpaaGreatDoor
