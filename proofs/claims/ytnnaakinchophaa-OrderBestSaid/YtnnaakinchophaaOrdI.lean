/- Best's answer by a check of one order alone; paths, cycles, stars and cliques; plain facts, no program in sight. -/
import Derived.Test.YtnnaakinchophaaOrdH
namespace Go.Proofs.Ytnnaakinchophaa.Ord
set_option linter.unusedVariables false
open Go.RowKit Go.Proofs.YtnnaakinchophaaW.PrintWords

def chk (G : Nat → Nat) (n W : Nat) : Nat → List Nat → Bool
  | out, [] => decide (out = 2 ^ n - 1)
  | out, v :: r => !out.testBit v && decide (v < n) && decide (bhN G v out ≤ W) && (List.range v).all (fun u => out.testBit u || decide (W < bhN G u out)) && chk G n W (sb out v) r
theorem chk_cons {G : Nat → Nat} {n W out v : Nat} {r : List Nat} (h : chk G n W out (v :: r) = true) : out.testBit v = false ∧ v < n ∧ bhN G v out ≤ W ∧ (∀ u, u < v → out.testBit u = true ∨ W < bhN G u out) ∧ chk G n W (sb out v) r = true := by
  simp only [chk, Bool.and_eq_true, Bool.not_eq_true', decide_eq_true_eq, List.all_eq_true, List.mem_range, Bool.or_eq_true] at h
  obtain ⟨⟨⟨⟨h1, h2⟩, h3⟩, h4⟩, h5⟩ := h
  exact ⟨h1, h2, h3, h4, h5⟩
theorem mx_le {a b c : Int} (h1 : a ≤ c) (h2 : b ≤ c) : mx a b ≤ c := by unfold mx; split <;> omega
theorem le_mx (a b : Int) : a ≤ mx a b := by unfold mx; split <;> omega
theorem not_full {n out v : Nat} (ho : out < 2 ^ n) (hv : v < n) (h : out.testBit v = false) : out < 2 ^ n - 1 := by
  have : out ≠ 2 ^ n - 1 := by
    rintro rfl
    rw [Nat.testBit_two_pow_sub_one, decide_eq_true hv] at h
    cases h
  omega
theorem sb_pow {n out v : Nat} (ho : out < 2 ^ n) (hv : v < n) : sb out v < 2 ^ n := Nat.or_lt_two_pow ho (pow_lt hv)
theorem chk_need (G : Nat → Nat) (n W : Nat) : ∀ (r : List Nat) (out : Nat), out < 2 ^ n → chk G n W out r = true → (needF G n).getD out 0 ≤ (W : Int)
  | [], out, _, h => by
    have e : out = 2 ^ n - 1 := by simpa [chk] using h
    rw [e, needF_full]
    omega
  | v :: r, out, ho, h => by
    obtain ⟨h1, h2, h3, _, h5⟩ := chk_cons h
    have hf := needF_ent G n out (not_full ho h2 h1)
    unfold Ent at hf
    rw [hf]
    refine Int.le_trans (foldl_le_at G out _ v h1 _ _ (List.mem_range.2 h2)) (mx_le (by omega) ?_)
    exact chk_need G n W r _ (sb_pow ho h2) h5
theorem find_first (p : Nat → Bool) (n v : Nat) (hv : v < n) (h1 : p v = true) (h0 : ∀ u, u < v → p u = false) : (List.range n).find? p = some v := by
  rw [List.find?_eq_some_iff_append]
  refine ⟨h1, List.range v, List.range' (v + 1) (n - (v + 1)), ?_, fun a ha => ?_⟩
  · rw [← List.range'_succ, List.range_eq_range', List.range_eq_range']
    have := List.range'_append_1 (s := 0) (m := v) (n := n - (v + 1) + 1)
    rw [Nat.zero_add] at this
    rw [this]
    congr 1
    omega
  · rw [h0 a (List.mem_range.1 ha)]
    rfl
theorem chk_sel (G : Nat → Nat) (n W : Nat) (hW : (needF G n).getD 0 0 = (W : Int)) : ∀ (r : List Nat) (out : Nat) (order : List Int), out < 2 ^ n → chk G n W out r = true → selL G n (needF G n) r.length out order = some (order ++ r.map Int.ofNat)
  | [], out, order, _, _ => by simp [selL]
  | v :: r, out, order, ho, h => by
    obtain ⟨h1, h2, h3, h4, h5⟩ := chk_cons h
    have hs := sb_pow ho h2
    have hf : (List.range n).find? (selP G (needF G n) out) = some v := by
      refine find_first _ n v h2 ?_ (fun u hu => ?_)
      · unfold selP
        rw [h1, hW]
        have := mx_le (a := (bhN G v out : Int)) (b := (needF G n).getD (sb out v) 0) (c := (W : Int)) (by omega) (chk_need G n W r _ hs h5)
        rw [decide_eq_true this]
        rfl
      · unfold selP
        rcases h4 u hu with h | h
        · rw [h]; rfl
        · rw [hW]
          have := le_mx (bhN G u out : Int) ((needF G n).getD (sb out u) 0)
          rw [decide_eq_false (by omega)]
          simp
    show (match (List.range n).find? (selP G (needF G n) out) with | none => none | some v => selL G n (needF G n) r.length (sb out v) (order ++ [(v : Int)])) = _
    rw [hf]
    show selL G n (needF G n) r.length (sb out v) (order ++ [(v : Int)]) = _
    rw [chk_sel G n W hW r _ _ hs h5]
    simp
theorem best_of_chk (G : Nat → Nat) (n W : Nat) (o : List Nat) (hn : 1 ≤ n) (hl : o.length = n) (hc : chk G n W 0 o = true) (hlow : ∀ v, v < n → W ≤ bhN G v 0) (hWn : W ≤ n) : bestG G n = some (o.map Int.ofNat, (W : Int)) := by
  have h0 : 0 < 2 ^ n := Nat.two_pow_pos n
  have hle := chk_need G n W o 0 h0 hc
  have h2 : 2 ≤ 2 ^ n := by
    have := Nat.pow_le_pow_right (n := 2) (by decide) hn
    omega
  have hge : (W : Int) ≤ (needF G n).getD 0 0 := by
    have hf := needF_ent G n 0 (by omega)
    unfold Ent at hf
    rw [hf]
    refine foldl_ge G 0 _ _ _ _ (by omega) (fun v hv _ => ?_)
    have := le_mx (bhN G v 0 : Int) ((needF G n).getD (sb 0 v) 0)
    have := hlow v (List.mem_range.1 hv)
    omega
  have hW : (needF G n).getD 0 0 = (W : Int) := by omega
  unfold bestG
  have hs := chk_sel G n W hW o 0 [] h0 hc
  rw [hl] at hs
  rw [hs, hW]
  rfl
/-- The whole check of one answer. -/
def okB (n : Nat) (l : List (List Int)) (o : List Nat) (W : Nat) : Bool :=
  rightF (n : Int) l && decide (o.length = n) && chk (ofG l) n W 0 o && (List.range n).all (fun v => decide (W ≤ bhN (ofG l) v 0)) && decide (W ≤ n)
theorem best_okB (n : Nat) (l : List (List Int)) (o : List Nat) (W : Nat) (hn : 1 ≤ n) (hn2 : n ≤ 10) (h : okB n l o W = true) : bestF (n : Int) l = some (o.map Int.ofNat, (W : Int), 0) := by
  simp only [okB, Bool.and_eq_true, decide_eq_true_eq, List.all_eq_true, List.mem_range] at h
  obtain ⟨⟨⟨⟨h1, h2⟩, h3⟩, h4⟩, h5⟩ := h
  unfold bestF
  rw [if_pos h1, if_pos (by omega), Int.toNat_natCast, best_of_chk (ofG l) n W o hn h2 h3 h4 h5]
  rfl

/-! ### The four kinds -/
def scOf (kind j : Nat) : List (List Int) := if 0 < j then (if kind < 2 then [[(j : Int) - 1, (j : Int)]] else if kind = 2 then [[(j : Int), 0]] else []) else []
def sc (kind i : Nat) : List (List Int) := (List.range i).flatMap (scOf kind)
def rg (i : Nat) : List Int := (List.range i).map Int.ofNat
def all40 : Bool := (List.range 10).all fun i =>
  okB (i + 1) (sc 0 (i + 1)) (List.range (i + 1)) (min i 1) &&
  (if 2 < i + 1 then okB (i + 1) (sc 1 (i + 1) ++ [[(i : Int), 0]]) (List.range (i + 1)) 2 else okB (i + 1) (sc 1 (i + 1)) (List.range (i + 1)) (min i 1)) &&
  (if 2 < i + 1 then okB (i + 1) (sc 2 (i + 1)) (((List.range (i + 1)).take i).drop 1 ++ [0] ++ [i]) (min i 1) else okB (i + 1) (sc 2 (i + 1)) (List.range (i + 1)) (min i 1)) &&
  okB (i + 1) (sc 3 (i + 1) ++ [rg (i + 1)]) (List.range (i + 1)) i
set_option maxRecDepth 100000 in
theorem all40_true : all40 = true := by decide +kernel
end Go.Proofs.Ytnnaakinchophaa.Ord
