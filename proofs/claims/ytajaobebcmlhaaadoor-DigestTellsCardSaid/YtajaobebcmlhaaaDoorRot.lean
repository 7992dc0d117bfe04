/-
  Turning a word, in the program and in the reference. No condition.
-/
import Derived.Test.YtajaobebcmlhaaaDoorSha
import Derived.Test.YtajaobebcmlhaaaDoorProg
import Derived.WalkKit
import Derived.Lib.Hide
import Derived.RegionTactic
import Derived.ChangeAlike
import Derived.Deep.QuietTactic
import Derived.BigQuiet
namespace Go.Proofs.YtajaobebcmlhaaaDoor.Pr
open Go.RowKit Go.Proofs.Sha
set_option linter.unusedVariables false
theorem u_rot (x : U) (n p q : Nat) (hp : p = 2 ^ (32 - n)) (hq : q = 2 ^ n) : bits .or .u32 (u x * (p : Int) % 4294967296) (u x / (q : Int)) = u (rot n x) := by
  have h1 : u x * (p : Int) % 4294967296 = u (x <<< (32 - n)) := by
    rw [← u_shl, IntKind.wrap_u32', hp]; simp
  have h2 : u x / (q : Int) = u (x >>> n) := by rw [← u_shr, hq]; simp
  rw [h1, h2, u_or, rot, BitVec.or_comm]
theorem u_rot' (x : U) (n p q : Nat) (hp : p = 2 ^ (32 - n)) (hq : q = 2 ^ n) : bits .or .u32 (u x / (q : Int)) (u x * (p : Int) % 4294967296) = u (rot n x) := by
  have h1 : u x * (p : Int) % 4294967296 = u (x <<< (32 - n)) := by
    rw [← u_shl, IntKind.wrap_u32', hp]; simp
  have h2 : u x / (q : Int) = u (x >>> n) := by rw [← u_shr, hq]; simp
  rw [h1, h2, u_or, rot]
set_option maxHeartbeats 1000000 in
theorem rotl2 (x : U) (w : World) : Calls Tryd.prog 60 #[.int .u32 (u x), .int .i64 (-2)] w fun e w' => e = .returned (.int .u32 (u (rot 2 x))) ∧ w = w' := by
  have e1 : bits .and .u64 (IntKind.u64.wrap (-2)) 31 = 30 := by decide +kernel
  have e2 := u_rot x 2 1073741824 4 (by decide) (by decide)
  have E2 := Lib.hid e2
  clear e2
  go_enter Tryd.func60, Tryd.ntmps60
  go_wp2
  go_ret
  exact ⟨congrArg (fun n => Ending.returned (.int .u32 n)) E2.out, rfl⟩
set_option maxHeartbeats 1000000 in
theorem right2 (x : U) (w : World) : Calls Tryd.prog 40 #[.int .i64 2, .int .u32 (u x)] w fun e w' => e = .returned (.int .u32 (u (rot 2 x))) ∧ w = w' := by
  go_enter Tryd.func40, Tryd.ntmps40
  go_wp2_with (go_at_call 60; refine (rotl2 x _).mono ?_; rintro e w' ⟨rfl, rfl⟩)
  go_ret
  exact ⟨rfl, rfl⟩
set_option maxHeartbeats 1000000 in
theorem turn2 (x : U) (w : World) : Calls Tryd.prog 43 #[.int .i64 2, .int .u32 (u x)] w fun e w' => e = .returned (.int .u32 (u (rot 2 x))) ∧ ∃ n, w' = w.drewN n := by
  have e2 := u_rot' x 2 1073741824 4 (by decide) (by decide)
  have E2 := Lib.hid e2
  clear e2
  go_enter Tryd.func43, Tryd.ntmps43
  go_wp2
  go_quiet (fail)
  go_wp2
  go_ret
  exact ⟨congrArg (fun n => Ending.returned (.int .u32 n)) E2.out, ⟨_, rfl⟩⟩
set_option maxHeartbeats 1000000 in
theorem rotl6 (x : U) (w : World) : Calls Tryd.prog 60 #[.int .u32 (u x), .int .i64 (-6)] w fun e w' => e = .returned (.int .u32 (u (rot 6 x))) ∧ w = w' := by
  have e1 : bits .and .u64 (IntKind.u64.wrap (-6)) 31 = 26 := by decide +kernel
  have e2 := u_rot x 6 67108864 64 (by decide) (by decide)
  have E2 := Lib.hid e2
  clear e2
  go_enter Tryd.func60, Tryd.ntmps60
  go_wp2
  go_ret
  exact ⟨congrArg (fun n => Ending.returned (.int .u32 n)) E2.out, rfl⟩
set_option maxHeartbeats 1000000 in
theorem right6 (x : U) (w : World) : Calls Tryd.prog 40 #[.int .i64 6, .int .u32 (u x)] w fun e w' => e = .returned (.int .u32 (u (rot 6 x))) ∧ w = w' := by
  go_enter Tryd.func40, Tryd.ntmps40
  go_wp2_with (go_at_call 60; refine (rotl6 x _).mono ?_; rintro e w' ⟨rfl, rfl⟩)
  go_ret
  exact ⟨rfl, rfl⟩
set_option maxHeartbeats 1000000 in
theorem turn6 (x : U) (w : World) : Calls Tryd.prog 43 #[.int .i64 6, .int .u32 (u x)] w fun e w' => e = .returned (.int .u32 (u (rot 6 x))) ∧ ∃ n, w' = w.drewN n := by
  have e2 := u_rot' x 6 67108864 64 (by decide) (by decide)
  have E2 := Lib.hid e2
  clear e2
  go_enter Tryd.func43, Tryd.ntmps43
  go_wp2
  go_quiet (fail)
  go_wp2
  go_ret
  exact ⟨congrArg (fun n => Ending.returned (.int .u32 n)) E2.out, ⟨_, rfl⟩⟩
set_option maxHeartbeats 1000000 in
theorem rotl7 (x : U) (w : World) : Calls Tryd.prog 60 #[.int .u32 (u x), .int .i64 (-7)] w fun e w' => e = .returned (.int .u32 (u (rot 7 x))) ∧ w = w' := by
  have e1 : bits .and .u64 (IntKind.u64.wrap (-7)) 31 = 25 := by decide +kernel
  have e2 := u_rot x 7 33554432 128 (by decide) (by decide)
  have E2 := Lib.hid e2
  clear e2
  go_enter Tryd.func60, Tryd.ntmps60
  go_wp2
  go_ret
  exact ⟨congrArg (fun n => Ending.returned (.int .u32 n)) E2.out, rfl⟩
set_option maxHeartbeats 1000000 in
theorem right7 (x : U) (w : World) : Calls Tryd.prog 40 #[.int .i64 7, .int .u32 (u x)] w fun e w' => e = .returned (.int .u32 (u (rot 7 x))) ∧ w = w' := by
  go_enter Tryd.func40, Tryd.ntmps40
  go_wp2_with (go_at_call 60; refine (rotl7 x _).mono ?_; rintro e w' ⟨rfl, rfl⟩)
  go_ret
  exact ⟨rfl, rfl⟩
set_option maxHeartbeats 1000000 in
theorem turn7 (x : U) (w : World) : Calls Tryd.prog 43 #[.int .i64 7, .int .u32 (u x)] w fun e w' => e = .returned (.int .u32 (u (rot 7 x))) ∧ ∃ n, w' = w.drewN n := by
  have e2 := u_rot' x 7 33554432 128 (by decide) (by decide)
  have E2 := Lib.hid e2
  clear e2
  go_enter Tryd.func43, Tryd.ntmps43
  go_wp2
  go_quiet (fail)
  go_wp2
  go_ret
  exact ⟨congrArg (fun n => Ending.returned (.int .u32 n)) E2.out, ⟨_, rfl⟩⟩
set_option maxHeartbeats 1000000 in
theorem rotl11 (x : U) (w : World) : Calls Tryd.prog 60 #[.int .u32 (u x), .int .i64 (-11)] w fun e w' => e = .returned (.int .u32 (u (rot 11 x))) ∧ w = w' := by
  have e1 : bits .and .u64 (IntKind.u64.wrap (-11)) 31 = 21 := by decide +kernel
  have e2 := u_rot x 11 2097152 2048 (by decide) (by decide)
  have E2 := Lib.hid e2
  clear e2
  go_enter Tryd.func60, Tryd.ntmps60
  go_wp2
  go_ret
  exact ⟨congrArg (fun n => Ending.returned (.int .u32 n)) E2.out, rfl⟩
set_option maxHeartbeats 1000000 in
theorem right11 (x : U) (w : World) : Calls Tryd.prog 40 #[.int .i64 11, .int .u32 (u x)] w fun e w' => e = .returned (.int .u32 (u (rot 11 x))) ∧ w = w' := by
  go_enter Tryd.func40, Tryd.ntmps40
  go_wp2_with (go_at_call 60; refine (rotl11 x _).mono ?_; rintro e w' ⟨rfl, rfl⟩)
  go_ret
  exact ⟨rfl, rfl⟩
set_option maxHeartbeats 1000000 in
theorem turn11 (x : U) (w : World) : Calls Tryd.prog 43 #[.int .i64 11, .int .u32 (u x)] w fun e w' => e = .returned (.int .u32 (u (rot 11 x))) ∧ ∃ n, w' = w.drewN n := by
  have e2 := u_rot' x 11 2097152 2048 (by decide) (by decide)
  have E2 := Lib.hid e2
  clear e2
  go_enter Tryd.func43, Tryd.ntmps43
  go_wp2
  go_quiet (fail)
  go_wp2
  go_ret
  exact ⟨congrArg (fun n => Ending.returned (.int .u32 n)) E2.out, ⟨_, rfl⟩⟩
set_option maxHeartbeats 1000000 in
theorem rotl13 (x : U) (w : World) : Calls Tryd.prog 60 #[.int .u32 (u x), .int .i64 (-13)] w fun e w' => e = .returned (.int .u32 (u (rot 13 x))) ∧ w = w' := by
  have e1 : bits .and .u64 (IntKind.u64.wrap (-13)) 31 = 19 := by decide +kernel
  have e2 := u_rot x 13 524288 8192 (by decide) (by decide)
  have E2 := Lib.hid e2
  clear e2
  go_enter Tryd.func60, Tryd.ntmps60
  go_wp2
  go_ret
  exact ⟨congrArg (fun n => Ending.returned (.int .u32 n)) E2.out, rfl⟩
set_option maxHeartbeats 1000000 in
theorem right13 (x : U) (w : World) : Calls Tryd.prog 40 #[.int .i64 13, .int .u32 (u x)] w fun e w' => e = .returned (.int .u32 (u (rot 13 x))) ∧ w = w' := by
  go_enter Tryd.func40, Tryd.ntmps40
  go_wp2_with (go_at_call 60; refine (rotl13 x _).mono ?_; rintro e w' ⟨rfl, rfl⟩)
  go_ret
  exact ⟨rfl, rfl⟩
set_option maxHeartbeats 1000000 in
theorem turn13 (x : U) (w : World) : Calls Tryd.prog 43 #[.int .i64 13, .int .u32 (u x)] w fun e w' => e = .returned (.int .u32 (u (rot 13 x))) ∧ ∃ n, w' = w.drewN n := by
  have e2 := u_rot' x 13 524288 8192 (by decide) (by decide)
  have E2 := Lib.hid e2
  clear e2
  go_enter Tryd.func43, Tryd.ntmps43
  go_wp2
  go_quiet (fail)
  go_wp2
  go_ret
  exact ⟨congrArg (fun n => Ending.returned (.int .u32 n)) E2.out, ⟨_, rfl⟩⟩
set_option maxHeartbeats 1000000 in
theorem rotl17 (x : U) (w : World) : Calls Tryd.prog 60 #[.int .u32 (u x), .int .i64 (-17)] w fun e w' => e = .returned (.int .u32 (u (rot 17 x))) ∧ w = w' := by
  have e1 : bits .and .u64 (IntKind.u64.wrap (-17)) 31 = 15 := by decide +kernel
  have e2 := u_rot x 17 32768 131072 (by decide) (by decide)
  have E2 := Lib.hid e2
  clear e2
  go_enter Tryd.func60, Tryd.ntmps60
  go_wp2
  go_ret
  exact ⟨congrArg (fun n => Ending.returned (.int .u32 n)) E2.out, rfl⟩
set_option maxHeartbeats 1000000 in
theorem right17 (x : U) (w : World) : Calls Tryd.prog 40 #[.int .i64 17, .int .u32 (u x)] w fun e w' => e = .returned (.int .u32 (u (rot 17 x))) ∧ w = w' := by
  go_enter Tryd.func40, Tryd.ntmps40
  go_wp2_with (go_at_call 60; refine (rotl17 x _).mono ?_; rintro e w' ⟨rfl, rfl⟩)
  go_ret
  exact ⟨rfl, rfl⟩
set_option maxHeartbeats 1000000 in
theorem turn17 (x : U) (w : World) : Calls Tryd.prog 43 #[.int .i64 17, .int .u32 (u x)] w fun e w' => e = .returned (.int .u32 (u (rot 17 x))) ∧ ∃ n, w' = w.drewN n := by
  have e2 := u_rot' x 17 32768 131072 (by decide) (by decide)
  have E2 := Lib.hid e2
  clear e2
  go_enter Tryd.func43, Tryd.ntmps43
  go_wp2
  go_quiet (fail)
  go_wp2
  go_ret
  exact ⟨congrArg (fun n => Ending.returned (.int .u32 n)) E2.out, ⟨_, rfl⟩⟩
set_option maxHeartbeats 1000000 in
theorem rotl18 (x : U) (w : World) : Calls Tryd.prog 60 #[.int .u32 (u x), .int .i64 (-18)] w fun e w' => e = .returned (.int .u32 (u (rot 18 x))) ∧ w = w' := by
  have e1 : bits .and .u64 (IntKind.u64.wrap (-18)) 31 = 14 := by decide +kernel
  have e2 := u_rot x 18 16384 262144 (by decide) (by decide)
  have E2 := Lib.hid e2
  clear e2
  go_enter Tryd.func60, Tryd.ntmps60
  go_wp2
  go_ret
  exact ⟨congrArg (fun n => Ending.returned (.int .u32 n)) E2.out, rfl⟩
set_option maxHeartbeats 1000000 in
theorem right18 (x : U) (w : World) : Calls Tryd.prog 40 #[.int .i64 18, .int .u32 (u x)] w fun e w' => e = .returned (.int .u32 (u (rot 18 x))) ∧ w = w' := by
  go_enter Tryd.func40, Tryd.ntmps40
  go_wp2_with (go_at_call 60; refine (rotl18 x _).mono ?_; rintro e w' ⟨rfl, rfl⟩)
  go_ret
  exact ⟨rfl, rfl⟩
set_option maxHeartbeats 1000000 in
theorem turn18 (x : U) (w : World) : Calls Tryd.prog 43 #[.int .i64 18, .int .u32 (u x)] w fun e w' => e = .returned (.int .u32 (u (rot 18 x))) ∧ ∃ n, w' = w.drewN n := by
  have e2 := u_rot' x 18 16384 262144 (by decide) (by decide)
  have E2 := Lib.hid e2
  clear e2
  go_enter Tryd.func43, Tryd.ntmps43
  go_wp2
  go_quiet (fail)
  go_wp2
  go_ret
  exact ⟨congrArg (fun n => Ending.returned (.int .u32 n)) E2.out, ⟨_, rfl⟩⟩
set_option maxHeartbeats 1000000 in
theorem rotl19 (x : U) (w : World) : Calls Tryd.prog 60 #[.int .u32 (u x), .int .i64 (-19)] w fun e w' => e = .returned (.int .u32 (u (rot 19 x))) ∧ w = w' := by
  have e1 : bits .and .u64 (IntKind.u64.wrap (-19)) 31 = 13 := by decide +kernel
  have e2 := u_rot x 19 8192 524288 (by decide) (by decide)
  have E2 := Lib.hid e2
  clear e2
  go_enter Tryd.func60, Tryd.ntmps60
  go_wp2
  go_ret
  exact ⟨congrArg (fun n => Ending.returned (.int .u32 n)) E2.out, rfl⟩
set_option maxHeartbeats 1000000 in
theorem right19 (x : U) (w : World) : Calls Tryd.prog 40 #[.int .i64 19, .int .u32 (u x)] w fun e w' => e = .returned (.int .u32 (u (rot 19 x))) ∧ w = w' := by
  go_enter Tryd.func40, Tryd.ntmps40
  go_wp2_with (go_at_call 60; refine (rotl19 x _).mono ?_; rintro e w' ⟨rfl, rfl⟩)
  go_ret
  exact ⟨rfl, rfl⟩
set_option maxHeartbeats 1000000 in
theorem turn19 (x : U) (w : World) : Calls Tryd.prog 43 #[.int .i64 19, .int .u32 (u x)] w fun e w' => e = .returned (.int .u32 (u (rot 19 x))) ∧ ∃ n, w' = w.drewN n := by
  have e2 := u_rot' x 19 8192 524288 (by decide) (by decide)
  have E2 := Lib.hid e2
  clear e2
  go_enter Tryd.func43, Tryd.ntmps43
  go_wp2
  go_quiet (fail)
  go_wp2
  go_ret
  exact ⟨congrArg (fun n => Ending.returned (.int .u32 n)) E2.out, ⟨_, rfl⟩⟩
set_option maxHeartbeats 1000000 in
theorem rotl22 (x : U) (w : World) : Calls Tryd.prog 60 #[.int .u32 (u x), .int .i64 (-22)] w fun e w' => e = .returned (.int .u32 (u (rot 22 x))) ∧ w = w' := by
  have e1 : bits .and .u64 (IntKind.u64.wrap (-22)) 31 = 10 := by decide +kernel
  have e2 := u_rot x 22 1024 4194304 (by decide) (by decide)
  have E2 := Lib.hid e2
  clear e2
  go_enter Tryd.func60, Tryd.ntmps60
  go_wp2
  go_ret
  exact ⟨congrArg (fun n => Ending.returned (.int .u32 n)) E2.out, rfl⟩
set_option maxHeartbeats 1000000 in
theorem right22 (x : U) (w : World) : Calls Tryd.prog 40 #[.int .i64 22, .int .u32 (u x)] w fun e w' => e = .returned (.int .u32 (u (rot 22 x))) ∧ w = w' := by
  go_enter Tryd.func40, Tryd.ntmps40
  go_wp2_with (go_at_call 60; refine (rotl22 x _).mono ?_; rintro e w' ⟨rfl, rfl⟩)
  go_ret
  exact ⟨rfl, rfl⟩
set_option maxHeartbeats 1000000 in
theorem turn22 (x : U) (w : World) : Calls Tryd.prog 43 #[.int .i64 22, .int .u32 (u x)] w fun e w' => e = .returned (.int .u32 (u (rot 22 x))) ∧ ∃ n, w' = w.drewN n := by
  have e2 := u_rot' x 22 1024 4194304 (by decide) (by decide)
  have E2 := Lib.hid e2
  clear e2
  go_enter Tryd.func43, Tryd.ntmps43
  go_wp2
  go_quiet (fail)
  go_wp2
  go_ret
  exact ⟨congrArg (fun n => Ending.returned (.int .u32 n)) E2.out, ⟨_, rfl⟩⟩
set_option maxHeartbeats 1000000 in
theorem rotl25 (x : U) (w : World) : Calls Tryd.prog 60 #[.int .u32 (u x), .int .i64 (-25)] w fun e w' => e = .returned (.int .u32 (u (rot 25 x))) ∧ w = w' := by
  have e1 : bits .and .u64 (IntKind.u64.wrap (-25)) 31 = 7 := by decide +kernel
  have e2 := u_rot x 25 128 33554432 (by decide) (by decide)
  have E2 := Lib.hid e2
  clear e2
  go_enter Tryd.func60, Tryd.ntmps60
  go_wp2
  go_ret
  exact ⟨congrArg (fun n => Ending.returned (.int .u32 n)) E2.out, rfl⟩
set_option maxHeartbeats 1000000 in
theorem right25 (x : U) (w : World) : Calls Tryd.prog 40 #[.int .i64 25, .int .u32 (u x)] w fun e w' => e = .returned (.int .u32 (u (rot 25 x))) ∧ w = w' := by
  go_enter Tryd.func40, Tryd.ntmps40
  go_wp2_with (go_at_call 60; refine (rotl25 x _).mono ?_; rintro e w' ⟨rfl, rfl⟩)
  go_ret
  exact ⟨rfl, rfl⟩
set_option maxHeartbeats 1000000 in
theorem turn25 (x : U) (w : World) : Calls Tryd.prog 43 #[.int .i64 25, .int .u32 (u x)] w fun e w' => e = .returned (.int .u32 (u (rot 25 x))) ∧ ∃ n, w' = w.drewN n := by
  have e2 := u_rot' x 25 128 33554432 (by decide) (by decide)
  have E2 := Lib.hid e2
  clear e2
  go_enter Tryd.func43, Tryd.ntmps43
  go_wp2
  go_quiet (fail)
  go_wp2
  go_ret
  exact ⟨congrArg (fun n => Ending.returned (.int .u32 n)) E2.out, ⟨_, rfl⟩⟩
end Go.Proofs.YtajaobebcmlhaaaDoor.Pr
