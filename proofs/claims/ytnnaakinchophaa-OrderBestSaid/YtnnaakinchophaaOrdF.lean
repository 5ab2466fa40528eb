/- The program's Right and the library's functions that it calls, walked; no condition beyond those written. -/
import Derived.Test.YtnnaakinchophaaOrdE
import Derived.Shelf.Abstract
namespace Go.Proofs.Ytnnaakinchophaa.Ord
set_option linter.unusedVariables false
open Go.RowKit Go.Proofs.YtnnaakinchophaaW.PrintWords Go.Proofs.YtnnaakinchophaaW.PrintLast Go.Proofs.YtnnaakinchophaaW.PrintMore

/-- The place of the first element at which p holds, or -1. -/
def idxF {α : Type} (p : α → Bool) (xs : List α) : Int := if xs.any p then (xs.findIdx p : Int) else -1
theorem idxF_none {α : Type} (p : α → Bool) (xs : List α) (h : ∀ x ∈ xs, p x = false) : idxF p xs = -1 := by
  unfold idxF
  rw [if_neg]
  intro h1
  obtain ⟨x, hx, hp⟩ := List.any_eq_true.1 h1
  rw [h x hx] at hp
  cases hp
theorem idxF_at {α : Type} (p : α → Bool) (d : α) (xs : List α) (k : Nat) (hk : k < xs.length) (h0 : ∀ j, j < k → p (xs.getD j d) = false) (h1 : p (xs.getD k d) = true) : idxF p xs = (k : Int) := by
  unfold idxF
  rw [if_pos (List.any_eq_true.2 ⟨_, getD_mem d xs k hk, h1⟩)]
  congr 1
  refine (List.findIdx_eq hk).2 ⟨?_, ?_⟩
  · rw [List.getD_eq_getElem?_getD, List.getElem?_eq_getElem hk] at h1
    exact h1
  · intro j hj
    have := h0 j hj
    rw [List.getD_eq_getElem?_getD, List.getElem?_eq_getElem (by omega)] at this
    simpa using this
theorem idxF_ge {α : Type} (p : α → Bool) (xs : List α) : decide (idxF p xs ≥ 0) = xs.any p := by
  unfold idxF
  cases h : xs.any p
  · rfl
  · simp

set_option maxHeartbeats 1000000 in
theorem indexFunc_int (p : Int → Bool) (g : Nat) (lb : Array Value) (eg : ∀ args w, (callFunc g args).run Try.prog w = .ok (.enter g args) w) (A : Option Addr) (c : Nat) (xs : List Int) (w : World)
    (hr : Kd.C (Kd.int .i64) w A xs.length xs) (hp : ∀ x ∈ xs, Calls Try.prog g (#[.int .i64 x] ++ lb) w fun e w' => e = .returned (.bool (p x)) ∧ w' = w) :
    Calls Try.prog 66 #[.slice A xs.length c, .func (.func g) #[] lb] w fun e w' => e = .returned (.int .i64 (idxF p xs)) ∧ w' = w := by
  have hmax := Kd.C_max hr
  have HR := Aside0.mk hr
  have HP := Aside0.mk hp
  clear hr hp
  go_enter Try.func66, Try.ntmps66
  go_wp2
  go_loopw [8] (fun s8 wr => ∃ k : Nat, k ≤ xs.length ∧ s8 = .int .i64 (k : Int) ∧ Aside0 (∀ j, j < k → p (xs.getD j 0) = false) ∧ wr = w) (fun s8 _ => (xs.length - (intOf s8).toNat))
  case atStart => exact ⟨0, by omega, rfl, ⟨fun j hj => absurd hj (by omega)⟩, rfl⟩
  case round =>
    obtain ⟨k, hk, rfl, HA, rfl⟩ := hrel
    by_cases hlt : k < xs.length
    · obtain ⟨ad, rfl, hx⟩ := kn_at HR.out k hlt
      have hcall := HP.out _ (getD_mem 0 xs k hlt)
      have HX := Aside0.mk (⟨_, rfl⟩ : ∃ x, xs.getD k 0 = x)
      obtain ⟨x, hxe⟩ := HX.out
      rw [hxe] at hx hcall
      have HXE := Aside0.mk hxe
      clear HX hxe
      cases hq : p x with
      | true =>
        rw [hq] at hcall
        have HC := Aside0.mk hcall
        have HI := Aside0.mk (idxF_at p 0 xs k hlt HA.out (by rw [HXE.out]; exact hq))
        clear hcall
        go_wp2_with (go_at_fn g; refine HC.out.mono ?_; rintro e w' ⟨rfl, rfl⟩)
        go_ret
        exact ⟨by rw [HI.out]; rfl, rfl⟩
      | false =>
        rw [hq] at hcall
        have HC := Aside0.mk hcall
        clear hcall
        have HA2 : Aside0 (∀ j, j < k + 1 → p (xs.getD j 0) = false) := ⟨fun j hj => by
          by_cases e : j = k
          · rw [e, HXE.out]; exact hq
          · exact HA.out j (by omega)⟩
        go_wp2_with (go_at_fn g; refine HC.out.mono ?_; rintro e w' ⟨rfl, rfl⟩)
        go_roundw
        case rel => exact ⟨k + 1, by omega, by go_num, HA2, trivial⟩
        case measure => simp [intOf]; omega
    · obtain rfl : k = xs.length := by omega
      have HI := Aside0.mk (idxF_none p xs (fun x hx => by
        obtain ⟨j, hj, rfl⟩ := List.getElem_of_mem hx
        have := HA.out j hj
        rw [List.getD_eq_getElem?_getD, List.getElem?_eq_getElem hj] at this
        exact this))
      go_wp2
      go_ret
      exact ⟨by rw [HI.out]; rfl, rfl⟩
set_option maxHeartbeats 1000000 in
theorem indexFunc_rows (p : List Int → Bool) (g : Nat) (lb : Array Value) (eg : ∀ args w, (callFunc g args).run Try.prog w = .ok (.enter g args) w) (A : Option Addr) (c : Nat) (xs : List (List Int)) (w : World)
    (hr : Kd.C kl w A xs.length xs) (hp : ∀ x ∈ xs, ∀ A0 c0, Kd.C (Kd.int .i64) w A0 x.length x → x.length ≤ c0 → Calls Try.prog g (#[.slice A0 x.length c0] ++ lb) w fun e w' => e = .returned (.bool (p x)) ∧ w' = w) :
    Calls Try.prog 65 #[.slice A xs.length c, .func (.func g) #[] lb] w fun e w' => e = .returned (.int .i64 (idxF p xs)) ∧ w' = w := by
  have hmax := Kd.C_max hr
  have HR := Aside0.mk hr
  have HP := Aside0.mk hp
  clear hr hp
  go_enter Try.func65, Try.ntmps65
  go_wp2
  go_loopw [8] (fun s8 wr => ∃ k : Nat, k ≤ xs.length ∧ s8 = .int .i64 (k : Int) ∧ Aside0 (∀ j, j < k → p (xs.getD j []) = false) ∧ wr = w) (fun s8 _ => (xs.length - (intOf s8).toNat))
  case atStart => exact ⟨0, by omega, rfl, ⟨fun j hj => absurd hj (by omega)⟩, rfl⟩
  case round =>
    obtain ⟨k, hk, rfl, HA, rfl⟩ := hrel
    by_cases hlt : k < xs.length
    · obtain ⟨ad, A0, c0, rfl, hx, hc0, hC0⟩ := kl_at HR.out k hlt
      have hcall := HP.out _ (getD_mem [] xs k hlt) A0 c0 hC0 hc0
      clear hC0 hc0
      have HX := Aside0.mk (⟨_, rfl⟩ : ∃ x, xs.getD k [] = x)
      obtain ⟨x, hxe⟩ := HX.out
      rw [hxe] at hx hcall
      have HXE := Aside0.mk hxe
      clear HX hxe
      cases hq : p x with
      | true =>
        rw [hq] at hcall
        have HC := Aside0.mk hcall
        have HI := Aside0.mk (idxF_at p [] xs k hlt HA.out (by rw [HXE.out]; exact hq))
        clear hcall
        go_wp2_with (go_at_fn g; refine HC.out.mono ?_; rintro e w' ⟨rfl, rfl⟩)
        go_ret
        exact ⟨by rw [HI.out]; rfl, rfl⟩
      | false =>
        rw [hq] at hcall
        have HC := Aside0.mk hcall
        clear hcall
        have HA2 : Aside0 (∀ j, j < k + 1 → p (xs.getD j []) = false) := ⟨fun j hj => by
          by_cases e : j = k
          · rw [e, HXE.out]; exact hq
          · exact HA.out j (by omega)⟩
        go_wp2_with (go_at_fn g; refine HC.out.mono ?_; rintro e w' ⟨rfl, rfl⟩)
        go_roundw
        case rel => exact ⟨k + 1, by omega, by go_num, HA2, trivial⟩
        case measure => simp [intOf]; omega
    · obtain rfl : k = xs.length := by omega
      have HI := Aside0.mk (idxF_none p xs (fun x hx => by
        obtain ⟨j, hj, rfl⟩ := List.getElem_of_mem hx
        have := HA.out j hj
        rw [List.getD_eq_getElem?_getD, List.getElem?_eq_getElem hj] at this
        exact this))
      go_wp2
      go_ret
      exact ⟨by rw [HI.out]; rfl, rfl⟩

set_option maxHeartbeats 1000000 in
theorem containsFunc_int (p : Int → Bool) (g : Nat) (lb : Array Value) (eg : ∀ args w, (callFunc g args).run Try.prog w = .ok (.enter g args) w) (A : Option Addr) (c : Nat) (xs : List Int) (w : World)
    (hr : Kd.C (Kd.int .i64) w A xs.length xs) (hp : ∀ x ∈ xs, Calls Try.prog g (#[.int .i64 x] ++ lb) w fun e w' => e = .returned (.bool (p x)) ∧ w' = w) :
    Calls Try.prog 49 #[.slice A xs.length c, .func (.func g) #[] lb] w fun e w' => e = .returned (.bool (xs.any p)) ∧ w' = w := by
  have HI := Aside0.mk (indexFunc_int p g lb eg A c xs w hr hp)
  have HG := Aside0.mk (idxF_ge p xs)
  clear hr hp
  go_enter Try.func49, Try.ntmps49
  go_wp2_with (go_at_call 66; refine HI.out.mono ?_; rintro e w' ⟨rfl, rfl⟩)
  go_ret
  exact ⟨by rw [← HG.out]; rfl, rfl⟩
set_option maxHeartbeats 1000000 in
theorem containsFunc_rows (p : List Int → Bool) (g : Nat) (lb : Array Value) (eg : ∀ args w, (callFunc g args).run Try.prog w = .ok (.enter g args) w) (A : Option Addr) (c : Nat) (xs : List (List Int)) (w : World)
    (hr : Kd.C kl w A xs.length xs) (hp : ∀ x ∈ xs, ∀ A0 c0, Kd.C (Kd.int .i64) w A0 x.length x → x.length ≤ c0 → Calls Try.prog g (#[.slice A0 x.length c0] ++ lb) w fun e w' => e = .returned (.bool (p x)) ∧ w' = w) :
    Calls Try.prog 47 #[.slice A xs.length c, .func (.func g) #[] lb] w fun e w' => e = .returned (.bool (xs.any p)) ∧ w' = w := by
  have HI := Aside0.mk (indexFunc_rows p g lb eg A c xs w hr hp)
  have HG := Aside0.mk (idxF_ge p xs)
  clear hr hp
  go_enter Try.func47, Try.ntmps47
  go_wp2_with (go_at_call 65; refine HI.out.mono ?_; rintro e w' ⟨rfl, rfl⟩)
  go_ret
  exact ⟨by rw [← HG.out]; rfl, rfl⟩

theorem eg50 : ∀ args w, (callFunc 50 args).run Try.prog w = .ok (.enter 50 args) w := enters_of Try.func50 (by kernel_rfl) rfl
theorem eg48 : ∀ args w, (callFunc 48 args).run Try.prog w = .ok (.enter 48 args) w := enters_of Try.func48 (by kernel_rfl) rfl
def offB (n x : Int) : Bool := decide (x < 0 ∨ n ≤ x)
set_option maxHeartbeats 1000000 in
theorem right11_calls (n x : Int) (B : Nat) (w : World) (hc : w.cell? ⟨B, 0, none⟩ = some (.int .i64 n)) :
    Calls Try.prog 50 #[.int .i64 x, .pointer (some ⟨B, 0, none⟩)] w fun e w' => e = .returned (.bool (offB n x)) ∧ w' = w := by
  unfold offB
  by_cases h1 : x < 0
  · have e : decide (x < 0 ∨ n ≤ x) = true := decide_eq_true (Or.inl h1)
    rw [e]
    go_enter Try.func50, Try.ntmps50
    go_wp2
    go_ret
    exact ⟨rfl, rfl⟩
  · by_cases h2 : n ≤ x
    · have e : decide (x < 0 ∨ n ≤ x) = true := decide_eq_true (Or.inr h2)
      rw [e]
      go_enter Try.func50, Try.ntmps50
      go_wp2
      go_ret
      exact ⟨rfl, rfl⟩
    · have e : decide (x < 0 ∨ n ≤ x) = false := decide_eq_false (by omega)
      rw [e]
      go_enter Try.func50, Try.ntmps50
      go_wp2
      go_ret
      exact ⟨rfl, rfl⟩
def offR (n : Int) (x : List Int) : Bool := decide (100 < x.length) || x.any (offB n)
set_option maxHeartbeats 1000000 in
theorem right1_calls (n : Int) (A : Option Addr) (c : Nat) (x : List Int) (B : Nat) (w : World) (hr : Kd.C (Kd.int .i64) w A x.length x) (hc : w.cell? ⟨B, 0, none⟩ = some (.int .i64 n)) :
    Calls Try.prog 48 #[.slice A x.length c, .pointer (some ⟨B, 0, none⟩)] w fun e w' => e = .returned (.bool (offR n x)) ∧ w' = w := by
  have HC := Aside0.mk (containsFunc_int (offB n) 50 #[.pointer (some ⟨B, 0, none⟩)] eg50 A c x w hr (fun y _ => right11_calls n y B w hc))
  have hmax := Kd.C_max hr
  have e0 := Aside0.mk (show offR n x = (decide (100 < x.length) || x.any (offB n)) from rfl)
  clear hr
  by_cases h1 : 100 < x.length
  · have h1b : decide ((x.length : Int) > 100) = true := decide_eq_true (by omega)
    have e1 : Aside0 (offR n x = true) := ⟨by rw [e0.out, decide_eq_true h1]; rfl⟩
    rw [e1.out]
    go_enter Try.func48, Try.ntmps48
    go_wp2
    go_ret
    exact ⟨rfl, rfl⟩
  · have e1 : Aside0 (offR n x = x.any (offB n)) := ⟨by rw [e0.out, decide_eq_false h1]; rfl⟩
    have h1b : decide (100 < (x.length : Int)) = false := decide_eq_false (by omega)
    rw [e1.out]
    go_enter Try.func48, Try.ntmps48
    go_wp2_with (go_at_call 49; refine HC.out.mono ?_; rintro e w' ⟨rfl, rfl⟩)
    go_ret
    exact ⟨rfl, rfl⟩
/-- What Right says. -/
def rightF (n : Int) (l : List (List Int)) : Bool := decide (0 ≤ n ∧ n ≤ 16 ∧ l.length ≤ 1000) && !l.any (offR n)
set_option maxHeartbeats 1000000 in
theorem right_calls (n : Int) (A : Option Addr) (c : Nat) (l : List (List Int)) (w : World) (hr : Kd.C kl w A l.length l) (hc : l.length ≤ c) :
    Calls Try.prog 23 #[.int .i64 n, .slice A l.length c] w fun e w' => e = .returned (.bool (rightF n l)) ∧ Below w.heap.size w w' := by
  have HC := Aside0.mk (containsFunc_rows (offR n) 48 #[.pointer (some ⟨w.heap.size, 0, none⟩)] eg48 A c l (w.alloc (.cells #[.int .i64 n] 3)) (Kd.C_alloc hr _) (fun x hx A0 c0 hC0 _ => right1_calls n A0 c0 x w.heap.size _ hC0 (by simp)))
  have hmax := Kd.C_max hr
  have e0 := Aside0.mk (show rightF n l = (decide (0 ≤ n ∧ n ≤ 16 ∧ l.length ≤ 1000) && !l.any (offR n)) from rfl)
  have HB := Aside0.mk ((Below.refl w.heap.size w).alloc (Nat.le_refl _) (.cells #[.int .i64 n] 3))
  clear hr
  by_cases h0 : n < 0
  · have e1 : Aside0 (rightF n l = false) := ⟨by rw [e0.out, decide_eq_false (by omega)]; rfl⟩
    rw [e1.out]
    go_enter Try.func23, Try.ntmps23
    go_wp2
    go_ret
    exact ⟨rfl, HB.out⟩
  · by_cases h1 : 16 < n
    · have e1 : Aside0 (rightF n l = false) := ⟨by rw [e0.out, decide_eq_false (by omega)]; rfl⟩
      rw [e1.out]
      go_enter Try.func23, Try.ntmps23
      go_wp2
      go_ret
      exact ⟨rfl, HB.out⟩
    · by_cases h2 : 1000 < l.length
      · have e1 : Aside0 (rightF n l = false) := ⟨by rw [e0.out, decide_eq_false (by omega)]; rfl⟩
        have h2b : decide (1000 < (l.length : Int)) = true := decide_eq_true (by omega)
        rw [e1.out]
        go_enter Try.func23, Try.ntmps23
        go_wp2
        go_ret
        exact ⟨rfl, HB.out⟩
      · have e1 : Aside0 (rightF n l = !l.any (offR n)) := ⟨by rw [e0.out, decide_eq_true (by omega)]; rfl⟩
        have h2b : decide (1000 < (l.length : Int)) = false := decide_eq_false (by omega)
        rw [e1.out]
        go_enter Try.func23, Try.ntmps23
        go_wp2_with (go_at_call 47; refine HC.out.mono ?_; rintro e w' ⟨rfl, rfl⟩)
        go_ret
        exact ⟨rfl, HB.out⟩
theorem rightF_true {n : Int} {l : List (List Int)} (h : rightF n l = true) : 0 ≤ n ∧ n ≤ 16 ∧ l.length ≤ 1000 ∧ ∀ x ∈ l, x.length ≤ 100 ∧ ∀ v ∈ x, 0 ≤ v ∧ v < n := by
  unfold rightF at h
  rw [Bool.and_eq_true, decide_eq_true_eq, Bool.not_eq_true', List.any_eq_false] at h
  obtain ⟨⟨h0, h1, h2⟩, h3⟩ := h
  refine ⟨h0, h1, h2, fun x hx => ?_⟩
  have h4 := h3 x hx
  unfold offR at h4
  rw [Bool.or_eq_true, not_or, decide_eq_true_eq] at h4
  refine ⟨by omega, fun v hv => ?_⟩
  have h5 : x.any (offB n) = false := by simpa using h4.2
  have h6 := List.any_eq_false.1 h5 v hv
  unfold offB at h6
  rw [decide_eq_true_eq] at h6
  omega
end Go.Proofs.Ytnnaakinchophaa.Ord
