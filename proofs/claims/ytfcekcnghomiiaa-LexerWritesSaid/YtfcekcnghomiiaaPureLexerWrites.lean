/- LexerWrites: the text of any tokens is the reference's text of them; no condition. -/
import Derived.Test.YtfcekcnghomiiaaLexH
import Derived.Test.YtfcekcnghomiiaaX19
import Derived.Test.YtfcekcnghomiiaaX20
namespace Go.Proofs.Ytfcekcnghomiiaa.X
open Go.RowKit Go.Proofs.Ytfcekcnghomiiaa Go.Proofs.Ytfcekcnghomiiaa.X Go.Proofs.Ytfcekcnghomiiaa.Lx Go.Proofs.YtfcekcnghomiiaaW.PrintWords Go.Proofs.YtfcekcnghomiiaaW.PrintLast

def u35 (t : Tok) : S35 := ⟨t.kind, bx t.text, t.n, t.line, t.col⟩
theorem rdu35 (l : List Tok) (i : Nat) (h : i < l.length) : rd_T35 (l.map u35) (i : Int) = u35 l[i] := by
  unfold rd_T35
  rw [Int.toNat_natCast, List.getD_eq_getElem?_getD, List.getElem?_map, List.getElem?_eq_getElem h]
  rfl

theorem join_snoc : ∀ (xs : List (List UInt8)) (x : List UInt8), xs ≠ [] → Lib.join (xs ++ [x]) [32] = Lib.join xs [32] ++ 32 :: x
  | [], x, h => absurd rfl h
  | [a], x, _ => by simp [Lib.join, List.intercalate]
  | a :: b :: r, x, _ => by
    have ih := join_snoc (b :: r) x (by simp)
    have hj : ∀ (c : List UInt8) (l : List (List UInt8)), l ≠ [] → Lib.join (c :: l) [32] = c ++ 32 :: Lib.join l [32] := by
      intro c l hl
      cases l with
      | nil => exact absurd rfl hl
      | cons y ys => simp [Lib.join, List.intercalate]
    rw [List.cons_append, hj a (b :: r ++ [x]) (by simp), ih, hj a (b :: r) (by simp)]
    simp
theorem join_one (x : List UInt8) : Lib.join [x] [32] = x := by simp [Lib.join, List.intercalate]
theorem join_nil : Lib.join [] [32] = [] := by simp [Lib.join, List.intercalate]

/-- How long the texts are together. -/
def total (l : List Tok) : Nat := (l.map fun t => t.text.length).sum
theorem total_snoc (l : List Tok) (t : Tok) : total (l ++ [t]) = total l + t.text.length := by simp [total]
theorem total_take (l : List Tok) (i : Nat) : total (l.take i) ≤ total l := by
  have : total l = total (l.take i) + total (l.drop i) := by
    unfold total
    rw [← List.sum_append, ← List.map_append, List.take_append_drop]
  omega

theorem rtext_l0 (l : List Tok) (hl : l.length ≤ 1000000) (ht : total l ≤ 1000000) : ∀ (d i : Nat), i ≤ l.length → l.length - i = d → (Lib.join (texts (l.take i)) [32]).length ≤ total (l.take i) + i →
    Ev (fun k => sortilegeref05_Text.l0 k (l.map u35) (bx (Lib.join (texts (l.take i)) [32])) (decide (texts (l.take i) = [])) (i : Int)) (bx (Lib.join (texts l) [32])) := by
  intro d
  induction d with
  | zero =>
    intro i hi hd hb
    have e : l.take i = l := List.take_of_length_le (by omega)
    rw [e]
    refine ev0 fun k => ?_
    simp only [sortilegeref05_Text.l0]
    rw [if_neg (by rw [List.length_map]; omega)]
  | succ d ih =>
    intro i hi hd hb
    have hlt : i < l.length := by omega
    have hsn : l.take (i + 1) = l.take i ++ [l[i]] := List.take_succ_eq_append_getElem hlt
    have htt := total_take l (i + 1)
    rw [hsn, total_snoc] at htt
    have htx : texts (l.take (i + 1)) = texts (l.take i) ++ (if l[i].kind = 5 then [] else [l[i].text]) := by rw [hsn, texts_append, texts_one]
    have hlen1 : (Lib.join (texts (l.take (i + 1))) [32]).length ≤ total (l.take (i + 1)) + (i + 1) := by
      rw [htx, hsn, total_snoc]
      by_cases h5 : l[i].kind = 5
      · rw [if_pos h5, List.append_nil]; omega
      · rw [if_neg h5]
        by_cases hn : texts (l.take i) = []
        · rw [hn, List.nil_append, join_one]; omega
        · rw [join_snoc _ _ hn, List.length_append, List.length_cons]; omega
    have h2 := ih (i + 1) (by omega) (by omega) hlen1
    rw [htx] at h2
    refine ev1 h2 fun k hk => ?_
    simp only [sortilegeref05_Text.l0]
    rw [if_pos (by rw [List.length_map]; omega), if_pos (by omega), rdu35 l i hlt, w1 i (by omega)]
    by_cases h5 : l[i].kind = 5
    · rw [if_pos h5, List.append_nil] at hk
      rw [if_pos (show (u35 l[i]).f0 = 5 from h5)]
      exact hk
    · rw [if_neg h5] at hk
      have hne : texts (l.take i) ++ [l[i].text] ≠ [] := by simp
      rw [decide_eq_false hne] at hk
      rw [if_neg (show ¬ (u35 l[i]).f0 = 5 from h5)]
      have hf1 : (u35 l[i]).f1 = bx l[i].text := rfl
      rw [hf1]
      by_cases hn : texts (l.take i) = []
      · rw [decide_eq_true hn, if_pos rfl]
        rw [hn, List.nil_append, join_one] at hk
        rw [hn, join_nil, if_pos (by rw [bx_size, bx_size, List.length_nil]; omega), bx_append, List.nil_append]
        exact hk
      · rw [decide_eq_false hn, if_neg (by decide)]
        rw [join_snoc _ _ hn] at hk
        have e1 : bx (Lib.join (texts (l.take i)) [32]) ++ (⟨#[32]⟩ : ByteArray) = bx (Lib.join (texts (l.take i)) [32] ++ [32]) := bx_append _ [32]
        rw [if_pos (by rw [bx_size]; omega), e1, if_pos (by rw [bx_size, bx_size, List.length_append, List.length_singleton]; omega), bx_append, List.append_assoc]
        exact hk

theorem rtext_f (l : List Tok) (hl : l.length ≤ 1000000) (ht : total l ≤ 1000000) : Ev (fun k => sortilegeref05_Text.f k (l.map u35)) (bx (Lib.join (texts l) [32])) := by
  refine ev1z (rtext_l0 l hl ht _ 0 (by omega) rfl (by simp [texts, Lib.join, List.intercalate])) fun k hk => ?_
  unfold sortilegeref05_Text.f
  simpa [texts, Lib.join, List.intercalate, bx] using hk

theorem join_len (l : List Tok) : (Lib.join (texts l) [32]).length ≤ total l + l.length := by
  have key : ∀ i, i ≤ l.length → (Lib.join (texts (l.take i)) [32]).length ≤ total (l.take i) + i := by
    intro i
    induction i with
    | zero => intro _; simp [texts, Lib.join, List.intercalate]
    | succ i ih =>
      intro hi
      have hb := ih (by omega)
      have hlt : i < l.length := by omega
      have hsn : l.take (i + 1) = l.take i ++ [l[i]] := List.take_succ_eq_append_getElem hlt
      rw [hsn, texts_append, texts_one, total_snoc]
      by_cases h5 : l[i].kind = 5
      · rw [if_pos h5, List.append_nil]; omega
      · rw [if_neg h5]
        by_cases hn : texts (l.take i) = []
        · rw [hn, List.nil_append, join_one]; omega
        · rw [join_snoc _ _ hn, List.length_append, List.length_cons]; omega
  have := key l.length (Nat.le_refl _)
  rwa [List.take_length] at this

/-- The lengths as the law counts them. -/
def capped (l : List Tok) : Nat := (l.map fun t => min t.text.length 3000).sum
theorem capped_snoc (l : List Tok) (t : Tok) : capped (l ++ [t]) = capped l + min t.text.length 3000 := by simp [capped]
theorem capped_small : ∀ (l : List Tok), capped l ≤ 2000 → total l = capped l
  | [], _ => rfl
  | t :: l, h => by
    have h1 : capped (t :: l) = min t.text.length 3000 + capped l := by simp [capped]
    have h2 : total (t :: l) = t.text.length + total l := by simp [total]
    have := capped_small l (by omega)
    omega

section
variable (l : List Tok)

theorem writes_j2 (hl : l.length ≤ 200) (ht : total l ≤ 2000) : Ev (fun k => sortilegelaw05_LexerWrites.j2 k (l.map t36) (l.map u35) false) true := by
  have hjl := join_len l
  have e0 : (bx [32] : ByteArray) = (⟨#[32]⟩ : ByteArray) := rfl
  have h1 := text_f l (by omega) (by rw [joined_bx, bx_size]; omega)
  rw [joined_bx] at h1
  have h2 := rtext_f l (by omega) (by omega)
  obtain ⟨K1, h1⟩ := h1
  obtain ⟨K2, h2⟩ := h2
  refine ⟨K1 + K2 + 1, fun k hk => ?_⟩
  obtain ⟨k, rfl⟩ : ∃ m, k = m + 1 := ⟨k - 1, by omega⟩
  replace h1 := h1 k (by omega)
  replace h2 := h2 k (by omega)
  simp only [] at h1 h2
  show sortilegelaw05_LexerWrites.j2 (k + 1) (l.map t36) (l.map u35) false = _
  simp only [sortilegelaw05_LexerWrites.j2]
  rw [if_neg Bool.false_ne_true, h1, Option.bind_some, h2, Option.bind_some, if_pos rfl]
  rfl

theorem writes_skip (q : List S35) : Ev (fun k => sortilegelaw05_LexerWrites.j2 k (l.map t36) q true) true := by
  refine ev0 fun k => ?_
  simp only [sortilegelaw05_LexerWrites.j2]
  rw [if_pos trivial]
  rfl

theorem writes_end (i : Nat) (hi : i ≤ l.length) (he : i = l.length ∨ 200 < l.length) : Ev (fun k => sortilegelaw05_LexerWrites.j1 k (l.map t36) ((l.take i).map u35) ((capped (l.take i) : Nat) : Int)) true := by
  by_cases h2 : 200 < l.length
  · refine ev1 (writes_skip l ((l.take i).map u35)) fun k hk => ?_
    simp only [sortilegelaw05_LexerWrites.j1]
    rw [if_pos (by rw [List.length_map]; omega)]
    exact hk
  · have e : l.take i = l := List.take_of_length_le (by omega)
    rw [e]
    by_cases hc : capped l > 2000
    · refine ev1 (writes_skip l (l.map u35)) fun k hk => ?_
      simp only [sortilegelaw05_LexerWrites.j1]
      rw [if_neg (by rw [List.length_map]; omega), decide_eq_true (by omega)]
      exact hk
    · refine ev1 (writes_j2 l (by omega) (by rw [capped_small l (by omega)]; omega)) fun k hk => ?_
      simp only [sortilegelaw05_LexerWrites.j1]
      rw [if_neg (by rw [List.length_map]; omega), decide_eq_false (by omega)]
      exact hk

theorem capped_le : ∀ (l : List Tok), capped l ≤ 3000 * l.length
  | [] => by simp [capped]
  | t :: l => by
    have h1 : capped (t :: l) = min t.text.length 3000 + capped l := by simp [capped]
    have := capped_le l
    rw [List.length_cons]
    omega

theorem writes_l0 (hmax : ∀ t ∈ l, t.text.length ≤ 9223372036854775807) : ∀ (d i : Nat), i ≤ l.length → i ≤ 201 → 201 - i = d → Ev (fun k => sortilegelaw05_LexerWrites.l0 k (l.map t36) ((l.take i).map u35) ((capped (l.take i) : Nat) : Int) (i : Int)) true := by
  intro d
  induction d with
  | zero =>
    intro i hi h2 hd
    refine ev1 (writes_end l i hi (by omega)) fun k hk => ?_
    simp only [sortilegelaw05_LexerWrites.l0]
    by_cases hlt : i < l.length
    · rw [if_pos (by rw [List.length_map]; omega), if_neg (by omega)]
      exact hk
    · rw [if_neg (by rw [List.length_map]; omega)]
      exact hk
  | succ d ih =>
    intro i hi h2 hd
    by_cases hlt : i < l.length
    · have hsn : l.take (i + 1) = l.take i ++ [l[i]] := List.take_succ_eq_append_getElem hlt
      have hcl := capped_le (l.take i)
      rw [List.length_take] at hcl
      have hx := hmax l[i] (List.getElem_mem hlt)
      refine ev1 (ih (i + 1) (by omega) (by omega) (by omega)) fun k hk => ?_
      simp only [sortilegelaw05_LexerWrites.l0]
      have e1 : (l.take (i + 1)).map u35 = (l.take i).map u35 ++ [u35 l[i]] := by rw [hsn, List.map_append]; rfl
      have e2 : wrap64 (((capped (l.take i) : Nat) : Int) + mn ((l[i].text.length : Nat) : Int) 3000) = ((capped (l.take (i + 1)) : Nat) : Int) := by
        rw [hsn, capped_snoc]
        unfold mn wrap64
        omega
      have e3 : (((t36 l[i]).f1).size : Int) = ((l[i].text.length : Nat) : Int) := by
        show ((bx l[i].text).size : Int) = _
        rw [bx_size]
      rw [if_pos (by rw [List.length_map]; omega), if_pos (by omega), if_pos (by omega), if_pos (by rw [List.length_map, List.length_take]; omega), rd36 l i hlt, w1 i (by omega), e3, e2]
      rw [e1] at hk
      exact hk
    · refine ev1 (writes_end l i hi (by omega)) fun k hk => ?_
      simp only [sortilegelaw05_LexerWrites.l0]
      rw [if_neg (by rw [List.length_map]; omega)]
      exact hk
end

/-- A token of the program's as one of ours. -/
def back36 (x : S36) : Tok := ⟨x.f0, x.f1.data.toList, x.f2, x.f3, x.f4⟩
theorem back36_t36 (x : S36) : t36 (back36 x) = x := by
  obtain ⟨a, b, c, d, e⟩ := x
  show (⟨a, bx b.data.toList, c, d, e⟩ : S36) = _
  rw [bx_self]

theorem LexerWrites_pure (q : List S36) (hq : ∀ x ∈ q, x.f1.size ≤ 9223372036854775807) : ∃ k, sortilegelaw05_LexerWrites.f k q = some true := by
  have e : q = (q.map back36).map t36 := by
    rw [List.map_map]
    conv => lhs; rw [← List.map_id q]
    exact List.map_congr_left fun x _ => (back36_t36 x).symm
  rw [e]
  apply Ev.rounds
  refine ev1z (writes_l0 (q.map back36) ?_ 201 0 (by omega) (by omega) rfl) fun k hk => ?_
  · intro t ht
    obtain ⟨x, hx, rfl⟩ := List.mem_map.1 ht
    show x.f1.data.toList.length ≤ _
    rw [size_list]
    exact hq x hx
  · unfold sortilegelaw05_LexerWrites.f
    exact hk
end Go.Proofs.Ytfcekcnghomiiaa.X
