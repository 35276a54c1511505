/-
  What is told by calls that are asked again is told by all of them. No condition.
-/
import Derived.Test.YtphjedhpnbkjaaaGreatDoorXKB
import Derived.Test.YtphjedhpnbkjaaaGreatDoorXN0
import Derived.Test.YtphjedhpnbkjaaaGreatDoorXN1
import Derived.Test.YtphjedhpnbkjaaaGreatDoorXN2
import Derived.Test.YtphjedhpnbkjaaaGreatDoorXN3
namespace Go.Proofs.YtphjedhpnbkjaaaGreatDoor
open Go SS
set_option maxRecDepth 1000000
theorem memo_ok0 : MemoOk env memo0 := memo_nil
theorem l1_9 : ∀ q ∈ [q0, q1, q2, q3, q4, q5, q6, q7, q8, q9, q10], Tells env 9 q.1 q.2 := by
  intro q hq
  rcases List.mem_cons.1 hq with rfl | hq
  · exact told_of env_ok tabOk memo_ok0 m0
  rcases List.mem_cons.1 hq with rfl | hq
  · exact told_of env_ok tabOk memo_ok0 m1
  rcases List.mem_cons.1 hq with rfl | hq
  · exact told_of env_ok tabOk memo_ok0 m2
  rcases List.mem_cons.1 hq with rfl | hq
  · exact told_of env_ok tabOk memo_ok0 m3
  rcases List.mem_cons.1 hq with rfl | hq
  · exact told_of env_ok tabOk memo_ok0 m4
  rcases List.mem_cons.1 hq with rfl | hq
  · exact told_of env_ok tabOk memo_ok0 m5
  rcases List.mem_cons.1 hq with rfl | hq
  · exact told_of env_ok tabOk memo_ok0 m6
  rcases List.mem_cons.1 hq with rfl | hq
  · exact told_of env_ok tabOk memo_ok0 m7
  rcases List.mem_cons.1 hq with rfl | hq
  · exact told_of env_ok tabOk memo_ok0 m8
  rcases List.mem_cons.1 hq with rfl | hq
  · exact told_of env_ok tabOk memo_ok0 m9
  rcases List.mem_cons.1 hq with rfl | hq
  · exact told_of env_ok tabOk memo_ok0 m10
  cases hq
theorem memo_ok1 : MemoOk env memo1 := memo_ok (by
  intro p hp
  rcases List.mem_cons.1 hp with rfl | hp
  · exact l1_9
  cases hp)
end Go.Proofs.YtphjedhpnbkjaaaGreatDoor
