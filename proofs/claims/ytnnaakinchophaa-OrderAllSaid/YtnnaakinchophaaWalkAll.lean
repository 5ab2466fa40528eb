/- OrderAll: Best returns the minimum width over all permutations and the first permutation that attains it; the law, walked; no condition. -/
import Derived.Test.YtnnaakinchophaaOrdJR
namespace Go.Proofs.Ytnnaakinchophaa.Ord
set_option linter.unusedVariables false
set_option linter.unusedSimpArgs false
open Go.RowKit Go.Proofs.YtnnaakinchophaaW.PrintWords Go.Proofs.YtnnaakinchophaaW.PrintLast Go.Proofs.YtnnaakinchophaaW.PrintMore
theorem fold_len {N : Nat} (g : List Int → List Int × Int) (x : List Int) (hg : ∀ y, (g y).1.length ≤ N) : ∀ (vs : List Nat) (s : List Int × Int), s.1.length ≤ N → (vs.foldl (lsS g x) s).1.length ≤ N
  | [], s, h => h
  | v :: r, s, h => by
    rw [List.foldl_cons]
    refine fold_len g x hg r _ ?_
    unfold lsS
    split
    · exact h
    · split
      · exact hg _
      · exact h
theorem least_len (n : Int) (l : List (List Int)) (M : Nat) : ∀ (m : Nat) (x : List Int), x.length + m ≤ M → (leastF n l m x).1.length ≤ M
  | 0, x, h => by
    show x.length ≤ M
    omega
  | m + 1, x, h => by
    unfold leastF
    have : ∀ (vs : List Nat) (s : List Int × Int), s.1.length ≤ M → (vs.foldl (lsS (leastF n l m) x) s).1.length ≤ M := by
      intro vs
      induction vs with
      | nil => exact fun s h => h
      | cons v r ih =>
        intro s hs
        rw [List.foldl_cons]
        refine ih _ ?_
        unfold lsS
        split
        · exact hs
        · split
          · exact least_len n l M m _ (by rw [List.length_append]; simp; omega)
          · exact hs
    exact this _ _ (Nat.zero_le _)
set_option maxHeartbeats 4000000 in
set_option maxRecDepth 100000 in
theorem orderAll_calls (n : Int) (A : Option Addr) (c : Nat) (l : List (List Int)) (w : World) (hr : Kd.C kl w A l.length l) (hc : l.length ≤ c) :
    Calls Try.prog 4 #[.int .i64 n, .slice A l.length c] w fun e w' => e = .returned (.bool true) ∧ Below w.heap.size w w' := by
  have H0 := Aside0.mk (few_calls n A c l 6 w (by decide) (by decide) hr hc)
  have HFS := Aside0.mk (fun h => few_small (n := n) (M := 6) (l := fewL ((6 : Nat) : Int) l) (by decide) h)
  clear hr hc
  go_enter Try.func4, Try.ntmps4
  go_wp2_with fail
  refine H0.out.mono ?_
  rintro e w1 ⟨v1, rfl, hR1, hB1⟩
  clear H0
  obtain ⟨A1, c1, rfl, hc1, hC1⟩ := Kd.R_reads hR1
  generalize fewN n ((6 : Nat) : Int) = n1 at *
  generalize fewL ((6 : Nat) : Int) l = l1 at *
  have HB1 := Aside0.mk hB1
  have HC1 := Aside0.mk hC1
  clear hR1 hB1 hC1
  cases hR : rightF n1 l1 with
  | false =>
    have hB : bestF n1 l1 = some ([], 0, 1) := by unfold bestF; rw [hR]; rfl
    have H1 := Aside0.mk (best_all n1 A1 c1 l1 [] 0 1 w1 HC1.out hc1 hB)
    have H2 := Aside0.mk (fun W h => rright_calls n1 A1 c1 l1 W h)
    rw [hR] at H2
    clear HFS hR hB
    go_wp2_with fail
    refine H1.out.mono ?_
    rintro e w2 ⟨v2, rfl, hR2, hB2⟩
    have HC2 := Aside0.mk (Kd.C_below HC1.out hB2)
    have HB2 := Aside0.mk (below_step HB1.out hB2)
    clear H1 hR2 hB2
    go_wp2_with fail
    refine (H2.out w2 HC2.out).mono ?_
    rintro e w3 ⟨rfl, rfl⟩
    have H9 := Aside0.mk (alive_calls w3)
    clear H2
    go_wp2_with fail
    refine H9.out.mono ?_
    rintro e wd ⟨rfl, hb⟩
    have HBd := Aside0.mk (below_step HB2.out hb)
    clear hb
    go_wp2
    go_ret
    exact ⟨rfl, HBd.out⟩
  | true =>
    obtain ⟨N, rfl, hN⟩ := HFS.out hR
    have hB := best_least (show N ≤ 10 by omega) hR
    have H1 := Aside0.mk (best_all N A1 c1 l1 _ _ _ w1 HC1.out hc1 hB)
    have H2 := Aside0.mk (fun A2 c2 W h1 h2 h3 => least_calls N (by omega) A1 c1 l1 hc1 N [] A2 c2 W (by simp) h1 h2 h3)
    have hll := least_len (N : Int) l1 N N [] (by simp)
    generalize leastF (N : Int) l1 N [] = P at *
    obtain ⟨P1, P2⟩ := P
    have hl100 : P1.length ≤ 100 := by
      have : P1.length ≤ N := hll
      omega
    clear HFS hR hB hll
    go_wp2_with fail
    refine H1.out.mono ?_
    rintro e w2 ⟨v2, rfl, hR2, hB2⟩
    have HB2 := Aside0.mk (below_step HB1.out hB2)
    have HC2 := Aside0.mk (Kd.C_below HC1.out hB2)
    have HR2 := Aside0.mk hR2
    have HBA := Aside0.mk (show Below w.heap.size w (w2.alloc (.cells #[] 3)) from HB2.out.alloc HB2.out.size _)
    have hbA : Below w2.heap.size w2 (w2.alloc (.cells #[] 3)) := (Below.refl _ w2).alloc (Nat.le_refl _) (.cells #[] 3)
    have HCA := Aside0.mk (Kd.C_below HC2.out hbA)
    have HRA := Aside0.mk (Kd.R_below HR2.out hbA)
    have hI0 : Kd.R (Kd.int .i64) 3 (w2.alloc (.cells #[] 3)) w2.heap.size (fun _ => True) (.slice (some ⟨w2.heap.size, 0, none⟩) 0 0) [] := Kd.R_of_own (by
      have h := own_lit w2 w2.heap.size 3 .i64 [] (Nat.le_refl _) (by decide)
      exact h) (fun _ _ => trivial)
    have H3 := Aside0.mk (H2.out (some ⟨w2.heap.size, 0, none⟩) 0 (w2.alloc (.cells #[] 3)) HCA.out (Kd.R_reads' hI0).2.2 (Nat.le_refl _))
    clear H1 hB2 HB1 HC1 hbA hI0 hR2 H2 HR2
    go_wp2_with fail
    refine H3.out.mono ?_
    rintro e w3 ⟨v3, rfl, hRd, hB3⟩
    obtain ⟨a3, c3, rfl, hc3, hC3⟩ := hRd.ex
    have HB3 := Aside0.mk (below_step HBA.out hB3)
    obtain ⟨a2, c2, rfl, hc2, hC2⟩ := Kd.R_reads (Kd.R_below HRA.out hB3)
    have H4 := Aside0.mk (same_calls a3 c3 a2 c2 P1 w3 hC3 hc3 hC2 hc2 hl100)
    have hee : (P2 == P2) = true := by simp
    clear H3 hB3 HBA HCA HRA hRd hC3 hC2
    go_wp2_with fail
    refine H4.out.mono ?_
    rintro e w4 ⟨rfl, hD⟩
    obtain ⟨⟨m4, rfl⟩⟩ := hD
    have H9 := Aside0.mk (alive_calls (w3.drewN m4))
    clear H4
    go_wp2_with fail
    refine H9.out.mono ?_
    rintro e wd ⟨rfl, hb⟩
    have HBd := Aside0.mk (below_step (pw_below_drewN HB3.out m4) hb)
    clear hb
    go_wp2
    go_ret
    exact ⟨rfl, HBd.out⟩
end Go.Proofs.Ytnnaakinchophaa.Ord
