/- LexerPlaces: the bytes of each token stand at its line and column, and only white space and remarks between tokens; for every string; no condition. -/
import Derived.Test.YtfcekcnghomiiaaLexH
import Derived.Test.YtfcekcnghomiiaaX21
import Derived.Test.YtfcekcnghomiiaaLexF
namespace Go.Proofs.Ytfcekcnghomiiaa.Pure
open Go.RowKit Go.Proofs.Ytfcekcnghomiiaa Go.Proofs.Ytfcekcnghomiiaa.X Go.Proofs.Ytfcekcnghomiiaa.Lx Go.Proofs.YtfcekcnghomiiaaW.PrintWords Go.Proofs.YtfcekcnghomiiaaW.PrintLast

theorem head_dropWhile_ (p : UInt8 → Bool) : ∀ (l : List UInt8) {c : UInt8} {t : List UInt8}, l.dropWhile p = c :: t → p c = false
  | [], c, t, h => by simp at h
  | b :: l, c, t, h => by
    by_cases hb : p b = true
    · rw [List.dropWhile_cons_of_pos hb] at h
      exact head_dropWhile_ p l h
    · rw [List.dropWhile_cons_of_neg hb] at h
      cases h
      simpa using hb

theorem lex_err {l : List UInt8} {f : Flt} (h : lex l = .error f) : f.e ≠ 0 := by
  unfold lex at h
  by_cases h2 : 20000 < l.length
  · rw [if_pos h2] at h; cases h; decide
  · rw [if_neg h2] at h
    exact scan_err _ l 1 1 f (Nat.le_refl _) h

section
variable (l : List UInt8) (W : List Tok) (hl : l.length ≤ 20000 ∧ W.length ≤ 30000)
include hl

theorem places_step (line from_ : Int) (at_ i : Nat) (b : Bool) (hat : at_ < l.length) (hi : i < W.length) (h0 : 0 ≤ from_) (h1 : from_ ≤ at_)
    (hcond : W[i].kind = 5 ∨ line < W[i].line ∨ (at_ : Int) - from_ + 1 < W[i].col)
    (h : Ev (fun k => sortilegelaw05_LexerPlaces.j3 k (bx l) (W.map t36) line from_ (at_ : Int) (i : Int) b true) true) : Ev (fun k => sortilegelaw05_LexerPlaces.l1 k (bx l) (W.map t36) line from_ (at_ : Int) (i : Int) b) true := by
  refine ev1 h fun k hk => ?_
  simp only [sortilegelaw05_LexerPlaces.l1]
  rw [if_pos (by rw [bx_size]; omega), if_pos (by omega), if_pos (by rw [List.length_map]; omega), rd36 W i hi]
  by_cases k5 : W[i].kind = 5
  · rw [if_pos (show (t36 W[i]).f0 = 5 from k5)]; exact hk
  · rw [if_neg (show ¬ (t36 W[i]).f0 = 5 from k5)]
    by_cases hln : line < W[i].line
    · rw [if_pos (show line < (t36 W[i]).f3 from hln)]; exact hk
    · rw [if_neg (show ¬ line < (t36 W[i]).f3 from hln), wid (x := (at_ : Int) - from_) (by omega) (by omega), wid (x := (at_ : Int) - from_ + 1) (by omega) (by omega)]
      have : decide ((at_ : Int) - from_ + 1 < (t36 W[i]).f4) = true := decide_eq_true (by
        rcases hcond with h | h | h
        · exact absurd h k5
        · exact absurd h hln
        · exact h)
      rw [this]; exact hk

/-- One byte that belongs to no token. -/
theorem places_byte (line from_ : Int) (at_ i : Nat) (b b' : Bool) (c : UInt8) (t : List UInt8) (hc : l.drop at_ = c :: t) (hat : at_ < l.length) (hi : i < W.length) (h0 : 0 ≤ from_) (h1 : from_ ≤ at_) (hln : 1 ≤ line ∧ line ≤ 30000)
    (hcond : W[i].kind = 5 ∨ line < W[i].line ∨ (at_ : Int) - from_ + 1 < W[i].col)
    (hb' : b' = (b && !decide (c.toNat = 10) || decide (c.toNat = 35))) (hok : b' = true ∨ c.toNat = 10 ∨ ws c = true)
    (h : Ev (fun k => sortilegelaw05_LexerPlaces.l1 k (bx l) (W.map t36) (if c.toNat = 10 then line + 1 else line) (if c.toNat = 10 then (at_ : Int) + 1 else from_) ((at_ + 1 : Nat) : Int) (i : Int) b') true) :
    Ev (fun k => sortilegelaw05_LexerPlaces.l1 k (bx l) (W.map t36) line from_ (at_ : Int) (i : Int) b) true := by
  have hb := bt_bx l at_ c t hc
  refine places_step l W hl line from_ at_ i b hat hi h0 h1 hcond ?_
  have h5 : Ev (fun k => sortilegelaw05_LexerPlaces.j5 k (bx l) (W.map t36) line from_ (at_ : Int) (i : Int) b' (c.toNat : Int) false) true := by
    refine ev1 h fun k hk => ?_
    simp only [sortilegelaw05_LexerPlaces.j5]
    rw [if_neg (by decide), w1 at_ (by omega)]
    by_cases c10 : c.toNat = 10
    · rw [if_pos (by omega), wid (x := line + 1) (by omega) (by omega)]
      rw [if_pos c10, if_pos c10] at hk
      exact hk
    · rw [if_neg (by omega)]
      rw [if_neg c10, if_neg c10] at hk
      exact hk
  have h4 : Ev (fun k => sortilegelaw05_LexerPlaces.j4 k (bx l) (W.map t36) line from_ (at_ : Int) (i : Int) b' (c.toNat : Int)) true := by
    refine ev1 h5 fun k hk => ?_
    simp only [sortilegelaw05_LexerPlaces.j4]
    cases b' with
    | true => rw [if_pos rfl]; exact hk
    | false =>
      rw [if_neg (by decide)]
      by_cases c32 : c.toNat = 32
      · rw [if_pos (by omega)]; exact hk
      · rw [if_neg (by omega)]
        by_cases c9 : c.toNat = 9
        · rw [if_pos (by omega)]; exact hk
        · rw [if_neg (by omega)]
          by_cases c10 : c.toNat = 10
          · rw [if_pos (by omega)]; exact hk
          · rw [if_neg (by omega)]
            have c13 : c.toNat = 13 := by
              rcases hok with h | h | h
              · cases h
              · exact absurd h c10
              · simpa [ws, c32, c9] using h
            have : ((c.toNat : Int) != 13) = false := by rw [c13]; rfl
            rw [this]; exact hk
  refine ev1 h4 fun k hk => ?_
  simp only [sortilegelaw05_LexerPlaces.j3]
  rw [if_pos trivial, if_pos (by omega), if_pos (by rw [bx_size]; omega), hb]
  have e35 : ((c.toNat : Int) == 35) = decide (c.toNat = 35) := by
    by_cases h : c.toNat = 35
    · rw [decide_eq_true h, h]; rfl
    · rw [decide_eq_false h]; simp; omega
  cases b with
  | true =>
    rw [if_pos rfl]
    by_cases c10 : c.toNat = 10
    · rw [if_pos (by omega), e35]
      have : b' = decide (c.toNat = 35) := by rw [hb', decide_eq_true c10]; rfl
      rw [← this]; exact hk
    · rw [if_neg (by omega)]
      have : b' = true := by rw [hb', decide_eq_false c10]; rfl
      rw [this] at hk; exact hk
  | false =>
    rw [if_neg (by decide), e35]
    have : b' = decide (c.toNat = 35) := by rw [hb']; rfl
    rw [← this]; exact hk

/-- The rest of a remark. -/
theorem places_remark (line from_ : Int) (i : Nat) (hi : i < W.length) (h0 : 0 ≤ from_) (hln : 1 ≤ line ∧ line ≤ 30000) : ∀ (d at_ : Nat), at_ ≤ l.length → l.length - at_ = d → from_ ≤ at_ →
    (W[i].kind = 5 ∨ line < W[i].line ∨ ((at_ + ((l.drop at_).takeWhile nnl).length : Nat) : Int) - from_ + 1 ≤ W[i].col) →
    Ev (fun k => sortilegelaw05_LexerPlaces.l1 k (bx l) (W.map t36) line from_ ((at_ + ((l.drop at_).takeWhile nnl).length : Nat) : Int) (i : Int) true) true → Ev (fun k => sortilegelaw05_LexerPlaces.l1 k (bx l) (W.map t36) line from_ (at_ : Int) (i : Int) true) true := by
  intro d
  induction d with
  | zero =>
    intro at_ hi hd hf hcond h
    rw [List.drop_eq_nil_of_le (by omega)] at h
    exact h
  | succ d ih =>
    intro at_ hi2 hd hf hcond h
    rcases drop_cases l at_ hi2 with ⟨e, _⟩ | ⟨hlt, c, t, hc, ht⟩
    · omega
    · rw [hc] at h hcond
      by_cases hn : nnl c = true
      · have c10 : ¬ c.toNat = 10 := by simpa [nnl] using hn
        rw [List.takeWhile_cons_of_pos hn] at h hcond
        rw [List.length_cons] at h hcond
        have h2 := ih (at_ + 1) (by omega) (by omega) (by omega) (by rw [ht]; rcases hcond with g | g | g; exact .inl g; exact .inr (.inl g); exact .inr (.inr (by omega))) (by
          rw [ht, show at_ + 1 + (t.takeWhile nnl).length = at_ + ((t.takeWhile nnl).length + 1) by omega]; exact h)
        refine places_byte l W hl line from_ at_ i true true c t hc hlt hi h0 hf hln (by rcases hcond with g | g | g; exact .inl g; exact .inr (.inl g); exact .inr (.inr (by omega))) (by rw [decide_eq_false c10]; rfl) (.inl rfl) ?_
        rw [if_neg c10, if_neg c10]
        exact h2
      · rw [List.takeWhile_cons_of_neg hn] at h
        exact h

theorem places_l1 : ∀ (d at_ : Nat), at_ ≤ l.length → l.length - at_ = d → ∀ (line from_ : Int) (i : Nat) (b : Bool), 0 ≤ from_ → from_ ≤ at_ → 1 ≤ line → line ≤ at_ + 1 → i < W.length →
    scan (l.drop at_) line (at_ - from_ + 1) = .ok (W.drop i) → (b = false ∨ l.drop at_ = [] ∨ ∃ c t, l.drop at_ = c :: t ∧ c.toNat = 10) →
    Ev (fun k => sortilegelaw05_LexerPlaces.l1 k (bx l) (W.map t36) line from_ (at_ : Int) (i : Int) b) true := by
  intro d
  induction d using Nat.strongRecOn with
  | _ d ih =>
  intro at_ hat hd line from_ i b h0 h1 hl1 hl2 hi hs hbb
  have hdr : W.drop i = W[i] :: W.drop (i + 1) := List.drop_eq_getElem_cons hi
  rw [hdr] at hs
  have hfirst := first_pos _ _ _ _ _ _ (Nat.le_refl _) hs
  -- how a round ends at a token
  have hend : ∀ (tk : Tok), W[i] = tk → tk.line = line → tk.col = (at_ : Int) - from_ + 1 → at_ + tk.text.length ≤ l.length → (l.drop at_).take tk.text.length = tk.text → ((tk.text = []) ↔ tk.kind = 5) →
      Ev (fun k => sortilegelaw05_LexerPlaces.l0 k (bx l) (W.map t36) line from_ ((at_ + tk.text.length : Nat) : Int) ((i + 1 : Nat) : Int)) true →
      Ev (fun k => sortilegelaw05_LexerPlaces.j3 k (bx l) (W.map t36) line from_ (at_ : Int) (i : Int) b false) true := by
    intro tk e hline hcol hle htake hempty h
    refine ev1 h fun k hk => ?_
    simp only [sortilegelaw05_LexerPlaces.j3]
    have f1 : (t36 tk).f1 = bx tk.text := rfl
    have hx : ((bx l).extract ((at_ : Int)).toNat ((((at_ : Int) + (tk.text.length : Int)) : Int)).toNat).toList = tk.text := by
      rw [ext_bx, bx_toList, Int.toNat_natCast, show ((at_ : Int) + (tk.text.length : Int)).toNat = at_ + tk.text.length by omega, List.drop_take, show at_ + tk.text.length - at_ = tk.text.length by omega, htake]
    rw [if_neg (by decide), if_pos (by omega), if_pos (by rw [List.length_map]; omega), rd36 W i hi, e, if_pos (show (t36 tk).f3 = line from hline),
      wid (x := (at_ : Int) - from_) (by omega) (by omega), wid (x := (at_ : Int) - from_ + 1) (by omega) (by omega), if_pos (show (t36 tk).f4 = (at_ : Int) - from_ + 1 from hcol), f1, bx_size,
      wid (x := (at_ : Int) + (tk.text.length : Int)) (by omega) (by omega), bx_size, if_neg (by omega), if_pos (by omega), if_pos (by omega), if_pos (by omega), hx, bx_toList, if_pos rfl, w1 i (by omega)]
    have hne : ((tk.text == ([] : List UInt8)) != ((t36 tk).f0 == 5)) = false := by
      show ((tk.text == ([] : List UInt8)) != (tk.kind == 5)) = false
      by_cases h5 : tk.kind = 5
      · rw [hempty.2 h5, h5]; rfl
      · have : tk.text ≠ [] := fun e => h5 (hempty.1 e)
        rw [beq_eq_false_iff_ne.2 h5, beq_eq_false_iff_ne.2 this]; rfl
    rw [hne, if_neg (by decide)]
    exact hk
  rcases drop_cases l at_ hat with ⟨e, he⟩ | ⟨hlt, c, t, hc, ht⟩
  · -- the end
    rw [he, scan] at hs
    injection hs with hs
    injection hs with hs1 hs2
    have hlen : W.length = i + 1 := by
      have := congrArg List.length hs2
      rw [List.length_drop] at this
      simp at this
      omega
    have h0' : Ev (fun k => sortilegelaw05_LexerPlaces.l0 k (bx l) (W.map t36) line from_ ((at_ + 0 : Nat) : Int) ((i + 1 : Nat) : Int)) true := by
      refine ev1 awake_f fun k hk => ?_
      simp only [sortilegelaw05_LexerPlaces.l0]
      rw [if_neg (by rw [List.length_map]; omega), if_pos (by rw [bx_size]; omega), if_pos (by rw [List.length_map]; omega), List.length_map, wid (x := (W.length : Int) - 1) (by omega) (by omega), if_pos (by omega), if_pos (by omega),
        show (W.length : Int) - 1 = (i : Int) by omega, rd36 W i hi, if_pos (show (t36 W[i]).f0 = 5 by rw [← hs1]; rfl), hk]
      rfl
    have hj := hend _ hs1.symm rfl rfl (by simp; omega) (by simp) (by simp) h0'
    refine ev1 hj fun k hk => ?_
    simp only [sortilegelaw05_LexerPlaces.l1]
    rw [if_neg (by rw [bx_size]; omega)]
    exact hk
  · rw [hc] at hs
    have hs0 := hs
    rw [scan] at hs
    by_cases c10 : c.toNat = 10
    · rw [if_pos c10] at hs
      have hf := first_pos _ _ _ _ _ _ (Nat.le_refl _) hs
      have h2 := ih (l.length - (at_ + 1)) (by omega) (at_ + 1) (by omega) rfl (line + 1) ((at_ : Int) + 1) i false (by omega) (by omega) (by omega) (by omega) hi
        (by rw [ht, hdr, show (((at_ + 1 : Nat) : Int) - ((at_ : Int) + 1) + 1) = 1 by omega]; exact hs) (.inl rfl)
      refine places_byte l W hl line from_ at_ i b false c t hc hlt hi h0 h1 ⟨hl1, by omega⟩ (.inr (.inl (by omega))) (by rw [decide_eq_true c10, decide_eq_false (by omega)]; cases b <;> rfl) (.inr (.inl c10)) ?_
      rw [if_pos c10, if_pos c10]
      exact h2
    · have hb : b = false := by
        rcases hbb with h | h | ⟨c', t', h, h10⟩
        · exact h
        · rw [hc] at h; cases h
        · rw [hc] at h; cases h; exact absurd h10 c10
      subst hb
      rw [if_neg c10] at hs
      by_cases cw : ws c = true
      · rw [if_pos cw] at hs
        have hf := first_pos _ _ _ _ _ _ (Nat.le_refl _) hs
        have c35 : ¬ c.toNat = 35 := by
          intro h
          simp [ws, h] at cw
        have h2 := ih (l.length - (at_ + 1)) (by omega) (at_ + 1) (by omega) rfl line from_ i false (by omega) (by omega) (by omega) (by omega) hi
          (by rw [ht, hdr, show (((at_ + 1 : Nat) : Int) - from_ + 1) = (at_ : Int) - from_ + 1 + 1 by omega]; exact hs) (.inl rfl)
        refine places_byte l W hl line from_ at_ i false false c t hc hlt hi h0 h1 ⟨hl1, by omega⟩ (by rcases hf with g | g; exact .inr (.inl g); exact .inr (.inr (by omega))) (by rw [decide_eq_false c10, decide_eq_false c35]; rfl) (.inr (.inr cw)) ?_
        rw [if_neg c10, if_neg c10]
        exact h2
      · rw [if_neg cw] at hs
        by_cases c35 : c.toNat = 35
        · rw [if_pos c35] at hs
          have hf := first_pos _ _ _ _ _ _ (Nat.le_refl _) hs
          have hlen : (t.takeWhile nnl).length ≤ t.length := (List.takeWhile_sublist nnl).length_le
          have htl : t.length = l.length - (at_ + 1) := by rw [← ht, List.length_drop]
          have hdw : l.drop (at_ + 1 + (t.takeWhile nnl).length) = t.dropWhile nnl := by rw [← List.drop_drop, ht, dropWhile_drop]
          have h2 := ih (l.length - (at_ + 1 + (t.takeWhile nnl).length)) (by omega) (at_ + 1 + (t.takeWhile nnl).length) (by omega) rfl line from_ i true (by omega) (by omega) (by omega) (by omega) hi
            (by rw [hdw, hdr, show (((at_ + 1 + (t.takeWhile nnl).length : Nat) : Int) - from_ + 1) = (at_ : Int) - from_ + 1 + 1 + (t.takeWhile nnl).length by omega]; exact hs)
            (by
              rw [hdw]
              cases hq : t.dropWhile nnl with
              | nil => exact .inr (.inl rfl)
              | cons c' t' =>
                refine .inr (.inr ⟨c', t', rfl, ?_⟩)
                exact nnl_10.1 (head_dropWhile_ nnl t hq))
          have h3 := places_remark l W hl line from_ i hi h0 ⟨hl1, by omega⟩ _ (at_ + 1) (by omega) rfl (by omega) (by rw [ht]; rcases hf with g | g; exact .inr (.inl g); exact .inr (.inr (by omega))) (by rw [ht]; exact h2)
          refine places_byte l W hl line from_ at_ i false true c t hc hlt hi h0 h1 ⟨hl1, by omega⟩ (by rcases hf with g | g; exact .inr (.inl g); exact .inr (.inr (by omega))) (by rw [decide_eq_true c35, decide_eq_false c10]; rfl) (.inl rfl) ?_
          rw [if_neg c10, if_neg c10]
          exact h3
        · rw [if_neg c35] at hs
          cases htk : tok (c :: t) with
          | bad e w => rw [htk] at hs; cases hs
          | ok k w m =>
            rw [htk] at hs
            simp only [] at hs
            cases hs2 : scan (t.drop (w.length - 1)) line ((at_ : Int) - from_ + 1 + w.length) with
            | error f => rw [hs2] at hs; cases hs
            | ok l2 =>
              rw [hs2] at hs
              injection hs with hs
              injection hs with e1 e2
              obtain ⟨hw, hwn⟩ := tok_take htk
              have hwl : 1 ≤ w.length := by cases w with | nil => exact absurd rfl hwn | cons _ _ => simp
              have hwl2 : w.length ≤ (c :: t).length := by have := congrArg List.length hw; rw [List.length_take] at this; omega
              have hctl : (c :: t).length = l.length - at_ := by rw [← hc, List.length_drop]
              have hdrop : l.drop (at_ + w.length) = t.drop (w.length - 1) := by rw [show at_ + w.length = at_ + 1 + (w.length - 1) by omega, ← List.drop_drop, ht]
              have hne2 : i + 1 < W.length := by
                have : l2 ≠ [] := by
                  intro h
                  rw [h] at hs2
                  exact scan_ne _ _ _ hs2
                have hh := congrArg List.length e2
                rw [List.length_drop] at hh
                have : 0 < l2.length := List.length_pos_iff.2 this
                omega
              have h2 := ih (l.length - (at_ + w.length)) (by omega) (at_ + w.length) (by omega) rfl line from_ (i + 1) false (by omega) (by omega) (by omega) (by omega) hne2
                (by rw [hdrop, ← e2, show (((at_ + w.length : Nat) : Int) - from_ + 1) = (at_ : Int) - from_ + 1 + w.length by omega]; exact hs2) (.inl rfl)
              have h3 : Ev (fun k => sortilegelaw05_LexerPlaces.l0 k (bx l) (W.map t36) line from_ ((at_ + w.length : Nat) : Int) ((i + 1 : Nat) : Int)) true := by
                refine ev1 h2 fun k hk => ?_
                simp only [sortilegelaw05_LexerPlaces.l0]
                rw [if_pos (by rw [List.length_map]; omega)]
                exact hk
              have hk5 := tok_kind htk
              have hj := hend _ e1.symm rfl rfl (by show at_ + w.length ≤ l.length; omega) (by rw [hc]; exact hw.symm) (by show w = [] ↔ k = 5; exact ⟨fun e => absurd e hwn, fun e => absurd e hk5⟩) h3
              refine ev1 hj fun kk hk => ?_
              simp only [sortilegelaw05_LexerPlaces.l1]
              rw [if_pos (by rw [bx_size]; omega), if_pos (by omega), if_pos (by rw [List.length_map]; omega), rd36 W i hi, ← e1, if_neg (show ¬ (t36 ⟨k, w, m, line, (at_ : Int) - from_ + 1⟩).f0 = 5 from hk5),
                if_neg (show ¬ line < (t36 ⟨k, w, m, line, (at_ : Int) - from_ + 1⟩).f3 from Int.lt_irrefl _), wid (x := (at_ : Int) - from_) (by omega) (by omega), wid (x := (at_ : Int) - from_ + 1) (by omega) (by omega)]
              have : decide ((at_ : Int) - from_ + 1 < (t36 ⟨k, w, m, line, (at_ : Int) - from_ + 1⟩).f4) = false := decide_eq_false (Int.lt_irrefl _)
              rw [this]
              exact hk
end

theorem LexerPlaces : sortilegelaw05_LexerPlaces.Pure := by
  intro s _
  obtain ⟨l, rfl⟩ : ∃ l, s = bx l := ⟨_, (bx_self s).symm⟩
  apply Ev.rounds
  have h1 := tokens_f l
  -- where nothing is asked
  have skip : ∀ q, Ev (fun k => sortilegelaw05_LexerPlaces.j0 k (bx l) q true) true := by
    intro q
    refine ev1 awake_f fun k hk => ?_
    simp only [sortilegelaw05_LexerPlaces.j0]
    rw [if_pos trivial, hk]
    rfl
  by_cases h9 : 9000 < l.length
  · refine ev2z h1 (skip (out36 [] (lex l)).1) fun k hk hk2 => ?_
    unfold sortilegelaw05_LexerPlaces.f
    rw [hk]
    simp only [Option.bind_some]
    rw [if_pos (by rw [bx_size]; omega)]
    exact hk2
  · cases hx : lex l with
    | error f =>
      rw [hx] at h1
      have he := lex_err hx
      refine ev2z h1 (skip []) fun k hk hk2 => ?_
      unfold sortilegelaw05_LexerPlaces.f
      rw [hk]
      simp only [Option.bind_some]
      rw [if_neg (by rw [bx_size]; omega)]
      have : ((out36 [] (.error f)).2.1 != 0) = true := by show (f.e != 0) = true; simpa using he
      rw [this]
      exact hk2
    | ok ts =>
      rw [hx] at h1
      have hs : scan l 1 1 = .ok ts := by unfold lex at hx; rw [if_neg (by omega)] at hx; exact hx
      have hlen := scan_len _ l 1 1 ts (Nat.le_refl _) hs
      have hne : ts ≠ [] := by rintro rfl; exact scan_ne _ _ _ hs
      have hpos : 0 < ts.length := List.length_pos_iff.2 hne
      have h2 := places_l1 l ts ⟨by omega, by omega⟩ _ 0 (by omega) rfl 1 0 0 false (by omega) (by omega) (by omega) (by omega) hpos hs (.inl rfl)
      have h3 : Ev (fun k => sortilegelaw05_LexerPlaces.l0 k (bx l) (ts.map t36) 1 0 0 0) true := by
        refine ev1 h2 fun k hk => ?_
        simp only [sortilegelaw05_LexerPlaces.l0]
        rw [if_pos (by rw [List.length_map]; omega)]
        exact hk
      have h4 : Ev (fun k => sortilegelaw05_LexerPlaces.j0 k (bx l) (ts.map t36) false) true := by
        refine ev1 h3 fun k hk => ?_
        simp only [sortilegelaw05_LexerPlaces.j0]
        rw [if_neg (by decide)]
        exact hk
      refine ev2z h1 h4 fun k hk hk2 => ?_
      unfold sortilegelaw05_LexerPlaces.f
      rw [hk]
      simp only [Option.bind_some]
      rw [if_neg (by rw [bx_size]; omega)]
      exact hk2

end Go.Proofs.Ytfcekcnghomiiaa.Pure
