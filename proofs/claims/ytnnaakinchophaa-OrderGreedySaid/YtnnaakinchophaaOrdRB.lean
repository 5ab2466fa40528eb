/- The reference's MinDegree and MinFill, walked; both greedies pick the same; conditions as written. -/
import Derived.Test.YtnnaakinchophaaOrdRA
namespace Go.Proofs.Ytnnaakinchophaa.Ord
set_option linter.unusedVariables false
set_option linter.unusedSimpArgs false
open Go.RowKit Go.Proofs.YtnnaakinchophaaW.PrintWords Go.Proofs.YtnnaakinchophaaW.PrintLast Go.Proofs.YtnnaakinchophaaW.PrintMore
set_option maxHeartbeats 400000 in
theorem rminDegree_calls (n : Int) (A : Option Addr) (c : Nat) (l : List (List Int)) (w : World) (hr : Kd.C kl w A l.length l) (hc : l.length ≤ c) :
    Calls Try.prog 31 #[.int .i64 n, .slice A l.length c] w fun e w' => ∃ v0, e = .returned (.tuple #[v0, .int .i64 (rgreedyF false n l).2]) ∧ Kd.R (Kd.int .i64) 3 w' w.heap.size (fun _ => True) v0 (rgreedyF false n l).1 ∧ Below w.heap.size w w' := by
  have H1 := Aside0.mk (rgreedy_calls false n A c l w hr hc)
  generalize rgreedyF false n l = P at *
  obtain ⟨P1, P2⟩ := P
  clear hr hc
  go_enter Try.func31, Try.ntmps31
  go_wp2_with fail
  refine H1.out.mono ?_
  rintro e w1 ⟨v0, rfl, hR, hB⟩
  have HB := Aside0.mk (And.intro hR hB)
  clear hR hB H1
  go_wp2
  go_ret2
  exact ⟨_, rfl, HB.out.1, HB.out.2⟩
set_option maxHeartbeats 400000 in
theorem rminFill_calls (n : Int) (A : Option Addr) (c : Nat) (l : List (List Int)) (w : World) (hr : Kd.C kl w A l.length l) (hc : l.length ≤ c) :
    Calls Try.prog 33 #[.int .i64 n, .slice A l.length c] w fun e w' => ∃ v0, e = .returned (.tuple #[v0, .int .i64 (rgreedyF true n l).2]) ∧ Kd.R (Kd.int .i64) 3 w' w.heap.size (fun _ => True) v0 (rgreedyF true n l).1 ∧ Below w.heap.size w w' := by
  have H1 := Aside0.mk (rgreedy_calls true n A c l w hr hc)
  generalize rgreedyF true n l = P at *
  obtain ⟨P1, P2⟩ := P
  clear hr hc
  go_enter Try.func33, Try.ntmps33
  go_wp2_with fail
  refine H1.out.mono ?_
  rintro e w1 ⟨v0, rfl, hR, hB⟩
  have HB := Aside0.mk (And.intro hR hB)
  clear hR hB H1
  go_wp2
  go_ret2
  exact ⟨_, rfl, HB.out.1, HB.out.2⟩
end Go.Proofs.Ytnnaakinchophaa.Ord
