/- The program's lexer over a whole text. -/
import Derived.Test.YtbmcafehpgimfaaSl
namespace Go.Proofs.Ytbmcafehpgimfaa.Ps
set_option linter.unusedVariables false
set_option linter.unusedSimpArgs false
open Go Go.RowKit Px Lx

def fltX (f : Flt) : List X := [iX f.e, sX f.text, iX f.line, iX f.col]
def fine : List X := [iX 0, sX [], iX 0, iX 0]
def tokOut (acc : List Tok) : Except Flt (List Tok) → V
  | .ok l => V.tup [V.one (X.d (D.list 5 (toks (acc ++ l)))), V.agg fine]
  | .error f => V.tup [V.one (X.d (D.list 5 [])), V.agg (fltX f)]
theorem toks_app (a : List Tok) (t : Tok) : toks (a ++ [t]) = toks a ++ [[D.int IntKind.i64 t.kind, D.str (bx t.text), D.int IntKind.i64 t.n, D.int IntKind.i64 t.line, D.int IntKind.i64 t.col]] := by
  unfold toks; rw [List.map_append]; rfl
theorem tok_bad {l : List UInt8} {e : Int} {w : List UInt8} (h : tok l = .bad e w) : e ≠ 0 := by
  unfold tok at h
  split at h
  · split at h
    · cases h; decide
    · split at h <;> cases h
  · split at h
    · split at h
      · cases h; decide
      · cases h
    · split at h
      · cases h; decide
      · cases h
def push (acc : List Tok) (t : Tok) (r : Except Flt (List Tok)) : V := tokOut (acc ++ [t]) r
theorem tokOut_cons (acc : List Tok) (t : Tok) (r : Except Flt (List Tok)) : tokOut acc (match r with | .error f => .error f | .ok l => .ok (t :: l)) = tokOut (acc ++ [t]) r := by
  cases r with
  | error f => rfl
  | ok l => unfold tokOut; simp only [List.append_assoc, List.singleton_append]
theorem byte_no {c : UInt8} {n : Nat} (h : ¬ c.toNat = n) : (Int.ofNat c.toNat == Int.ofNat n) = false := by
  rw [beq_eq_false_iff_ne]
  intro e
  exact h (Int.ofNat.inj e)
theorem byte_yes {c : UInt8} {n : Nat} (h : c.toNat = n) : (Int.ofNat c.toNat == Int.ofNat n) = true := by rw [h]; simp
theorem add_wrap (a b : Nat) (h : a + b ≤ 2000000) : IntKind.wrap .i64 (Int.ofNat a + Int.ofNat b) = Int.ofNat (a + b) := by
  rw [wrap_in _ (by simp only [Int.ofNat_eq_natCast]; omega) (by simp only [Int.ofNat_eq_natCast]; omega)]
  simp
theorem col_wrap (i b : Nat) (h : b ≤ i) (h2 : i ≤ 1000000) : IntKind.wrap .i64 (IntKind.wrap .i64 (Int.ofNat i - Int.ofNat b) + 1) = Int.ofNat i - Int.ofNat b + 1 := by
  rw [wrap_in (Int.ofNat i - Int.ofNat b) (by simp only [Int.ofNat_eq_natCast]; omega) (by simp only [Int.ofNat_eq_natCast]; omega), wrap_in _ (by simp only [Int.ofNat_eq_natCast]; omega) (by simp only [Int.ofNat_eq_natCast]; omega)]
theorem L_comment_v1 (l : List UInt8) (hl : l.length ≤ 1000000) (acc : List Tok) (x1 x2 x4 : Int) (s5 : ByteArray) (x6 x7 : Int) (Γ : Bool → SemL) (m0 n0 : Nat) (o : Option Out) : ∀ (d i : Nat), i ≤ l.length → l.length - i = d →
    l21_0_v1 m0 Γ n0 (bx l) (toks acc) x1 x2 (Int.ofNat (i + ((l.drop i).takeWhile nnl).length)) x4 s5 x6 x7 = o → ∀ m, d < m → l21_1_v1 m Γ m0 n0 (bx l) (toks acc) x1 x2 (Int.ofNat i) x4 s5 x6 x7 = o := by
  intro d
  induction d with
  | zero =>
    intro i hi hd h m hm
    rw [List.drop_eq_nil_of_le (by omega)] at h
    obtain ⟨m, rfl⟩ : ∃ m', m = m' + 1 := ⟨m - 1, by omega⟩
    rw [l21_1_v1_eq, lt_no i _ (by rw [bx_size]; omega), cond_false, q21_3_v1_eq]
    exact h
  | succ d ih =>
    intro i hi hd h m hm
    obtain ⟨m, rfl⟩ : ∃ m', m = m' + 1 := ⟨m - 1, by omega⟩
    rcases drop_cases l i hi with ⟨e, _⟩ | ⟨hlt, c, t, hc, ht⟩
    · omega
    · have hb := get_bx l i c t hc
      rw [hc] at h
      rw [l21_1_v1_eq, lt_yes i _ (by rw [bx_size]; exact hlt), cond_true, show decide ((0 : Int) ≤ Int.ofNat i) = true from decide_eq_true (Int.natCast_nonneg i), Bool.true_and, cond_true, hb]
      by_cases hn : c.toNat = 10
      · rw [List.takeWhile_cons_of_neg (by simp [nnl, hn])] at h
        rw [bne, show (Int.ofNat c.toNat == 10) = true from byte_yes (n := 10) hn, Bool.not_true, cond_false, q21_3_v1_eq]
        exact h
      · rw [List.takeWhile_cons_of_pos (by simp [nnl, hn])] at h
        rw [bne, show (Int.ofNat c.toNat == 10) = false from byte_no (n := 10) hn, Bool.not_false, cond_true, q21_2_v1_eq, wrap_up i (by omega)]
        exact ih (i + 1) (by omega) (by omega) (by rw [ht]; simpa [Nat.add_assoc, Nat.add_comm 1] using h) m (by omega)
theorem L_scan_v1 (l : List UInt8) (hl : l.length ≤ 1000000) (x4 : Int) (s5 : ByteArray) (x6 x7 : Int) : ∀ (d i : Nat), l.length - i < d → i ≤ l.length → ∀ (acc : List Tok) (line : Nat) (b : Nat), b ≤ i → line ≤ i + 1 → acc.length ≤ i →
    Ev (fun m k n => l21_0_v1 m (Ak k) n (bx l) (toks acc) (Int.ofNat line) (Int.ofNat b) (Int.ofNat i) x4 s5 x6 x7) (RV (tokOut acc (scan (l.drop i) (Int.ofNat line) (Int.ofNat i - Int.ofNat b + 1)))) := by
  intro d
  induction d with
  | zero => intro i h; omega
  | succ d ih =>
    intro i hd hi acc line b hb hline ha
    refine Ev.step ?_
    simp only [l21_0_v1_eq]
    rcases drop_cases l i hi with ⟨e, hnil⟩ | ⟨hlt, c, t, hc, ht⟩
    · subst e
      rw [hnil, scan]
      refine Ev.no (lt_no _ _ (by rw [bx_size]; omega)) ?_
      simp only [q21_6_v1_eq, bx_size, col_wrap l.length b hb hl]
      refine Ev.yes (by rw [toks_len]; exact Nat.ble_eq_true_of_le (by show (acc.length + 1) * 49 ≤ _; omega)) (Ev.of fun m k n => ?_)
      show some _ = some (RV (V.tup [V.one (X.d (D.list 5 (toks (acc ++ [_])))), _]))
      rw [toks_app]
      rfl
    · have hget := get_bx l i c t hc
      refine Ev.yes (lt_yes i _ (by rw [bx_size]; exact hlt)) ?_
      simp only [q21_1_v1_eq, hget, wrap_up i (show i < 9223372036854775807 by omega), wrap_up line (show line < 9223372036854775807 by omega)]
      refine Ev.yes (in_range i _ (by rw [bx_size]; exact hlt)) ?_
      rw [hc, scan]
      have next : Ev (fun m k n => l21_0_v1 m (Ak k) n (bx l) (toks acc) (Int.ofNat line) (Int.ofNat b) (Int.ofNat (i + 1)) x4 s5 x6 x7) (RV (tokOut acc (scan t (Int.ofNat line) (Int.ofNat i - Int.ofNat b + 1 + 1)))) := by
        have := ih (i + 1) (by omega) (by omega) acc line b (by omega) (by omega) (by omega)
        rw [ht] at this
        have e1 : Int.ofNat (i + 1) - Int.ofNat b + 1 = Int.ofNat i - Int.ofNat b + 1 + 1 := by simp only [Int.ofNat_eq_natCast]; omega
        rw [e1] at this
        exact this
      by_cases h10 : c.toNat = 10
      · rw [if_pos h10]
        refine Ev.yes (byte_yes (n := 10) h10) ?_
        have := ih (i + 1) (by omega) (by omega) acc (line + 1) (i + 1) (by omega) (by omega) (by omega)
        rw [ht, Int.sub_self] at this
        exact this
      rw [if_neg h10]
      refine Ev.no (byte_no (n := 10) h10) ?_
      by_cases h32 : c.toNat = 32
      · rw [if_pos (by simp [ws, h32])]
        exact Ev.yes (byte_yes (n := 32) h32) next
      refine Ev.no (byte_no (n := 32) h32) ?_
      by_cases h9 : c.toNat = 9
      · rw [if_pos (by simp [ws, h9])]
        exact Ev.yes (byte_yes (n := 9) h9) next
      refine Ev.no (byte_no (n := 9) h9) ?_
      by_cases h13 : c.toNat = 13
      · rw [if_pos (by simp [ws, h13])]
        exact Ev.yes (byte_yes (n := 13) h13) next
      refine Ev.no (byte_no (n := 13) h13) ?_
      rw [if_neg (by simp [ws, h32, h9, h13])]
      by_cases h35 : c.toNat = 35
      · rw [if_pos h35]
        refine Ev.yes (byte_yes (n := 35) h35) ?_
        have hle : (t.takeWhile nnl).length ≤ t.length := (List.takeWhile_sublist nnl).length_le
        have htl : t.length = l.length - i - 1 := by
          have := congrArg List.length hc
          rw [List.length_drop, List.length_cons] at this
          omega
        have hdw : l.drop (i + 1 + (t.takeWhile nnl).length) = t.dropWhile nnl := by
          rw [← List.drop_drop, ht]
          have := List.takeWhile_append_dropWhile (p := nnl) (l := t)
          conv => lhs; rw [← this]
          rw [List.drop_append_of_le_length (by rw [this]; exact Nat.le_refl _) |>.trans (by rw [this])] <;> simp
        have := ih (i + 1 + (t.takeWhile nnl).length) (by omega) (by omega) acc line b (by omega) (by omega) (by omega)
        rw [hdw] at this
        have e1 : Int.ofNat (i + 1 + (t.takeWhile nnl).length) - Int.ofNat b + 1 = Int.ofNat i - Int.ofNat b + 1 + 1 + ((t.takeWhile nnl).length : Int) := by simp only [Int.ofNat_eq_natCast]; omega
        rw [e1] at this
        obtain ⟨K, hK⟩ := this
        refine ⟨K + l.length + 1, fun m k n h1 h2 h3 => ?_⟩
        refine L_comment_v1 l hl acc _ _ _ _ _ _ (Ak k) m n _ (l.length - i) i hi rfl ?_ m (by omega)
        rw [hc, List.takeWhile_cons_of_pos (by simp [nnl, h35]), List.length_cons]
        rw [show i + ((t.takeWhile nnl).length + 1) = i + 1 + (t.takeWhile nnl).length by omega]
        exact hK m k n (by omega) (by omega) (by omega)
      rw [if_neg h35]
      refine Ev.no (byte_no (n := 35) h35) ?_
      have hext : (bx l).extract (Int.toNat (Int.ofNat i)) (Int.toNat (Int.ofNat l.length)) = bx (c :: t) := by
        rw [ext_bx, ← hc]
        show bx ((l.take l.length).drop i) = _
        rw [List.take_length]
      simp only [q21_4_v1_eq, bx_size, hext]
      refine Ev.yes (by simp only [Int.ofNat_eq_natCast, Bool.and_eq_true, decide_eq_true_eq]; omega) ?_
      have hone := C_one (c :: t) (by simp) (by rw [← hc, List.length_drop]; omega)
      cases htok : tok (c :: t) with
      | bad e w =>
        rw [htok] at hone
        refine v_t2a5ISIIIoI hone (Ev.yes (by simpa using tok_bad htok) (Ev.of fun m k n => ?_))
        rw [col_wrap i b hb (by omega)]
        rfl
      | ok κ w n =>
        rw [htok] at hone
        refine v_t2a5ISIIIoI hone (Ev.no rfl ?_)
        have hw := tok_take htok
        have hwl : 1 ≤ w.length := by
          cases w with
          | nil => exact absurd rfl hw.2
          | cons => simp
        have hwle : w.length ≤ (c :: t).length := by
          have := congrArg List.length hw.1
          rw [List.length_take] at this
          omega
        have htl : (c :: t).length = l.length - i := by rw [← hc, List.length_drop]
        have hdr : l.drop (i + w.length) = t.drop (w.length - 1) := by
          rw [← List.drop_drop, hc]
          cases w with
          | nil => exact absurd rfl hw.2
          | cons a w' => rfl
        simp only [q21_5_v1_eq, bx_size, add_wrap i w.length (by omega), col_wrap i b hb (by omega : i ≤ 1000000)]
        show Ev _ (RV (tokOut acc (match scan (t.drop (w.length - 1)) (Int.ofNat line) (Int.ofNat i - Int.ofNat b + 1 + (w.length : Int)) with | .error f => .error f | .ok l => .ok (⟨κ, w, n, Int.ofNat line, Int.ofNat i - Int.ofNat b + 1⟩ :: l))))
        rw [tokOut_cons]
        have e1 : Int.ofNat (i + w.length) - Int.ofNat b + 1 = Int.ofNat i - Int.ofNat b + 1 + (w.length : Int) := by simp only [Int.ofNat_eq_natCast]; omega
        have := ih (i + w.length) (by omega) (by omega) (acc ++ [⟨κ, w, n, Int.ofNat line, Int.ofNat i - Int.ofNat b + 1⟩]) line b (by omega) (by omega) (by rw [List.length_append, List.length_singleton]; omega)
        rw [hdr, e1, toks_app] at this
        exact Ev.yes (by rw [toks_len]; exact Nat.ble_eq_true_of_le (by show (acc.length + 1) * 49 ≤ _; omega)) this
theorem L_comment (l : List UInt8) (hl : l.length ≤ 1000000) (x1 x2 x4 : Int) (s5 : ByteArray) (x6 x7 : Int) (Γ : Bool → SemL) (m0 n0 : Nat) (o : Option Out) : ∀ (d i : Nat), i ≤ l.length → l.length - i = d →
    l21_0 m0 Γ n0 (bx l) x1 x2 (Int.ofNat (i + ((l.drop i).takeWhile nnl).length)) x4 s5 x6 x7 = o → ∀ m, d < m → l21_1 m Γ m0 n0 (bx l) x1 x2 (Int.ofNat i) x4 s5 x6 x7 = o := by
  intro d
  induction d with
  | zero =>
    intro i hi hd h m hm
    rw [List.drop_eq_nil_of_le (by omega)] at h
    obtain ⟨m, rfl⟩ : ∃ m', m = m' + 1 := ⟨m - 1, by omega⟩
    rw [l21_1_eq, lt_no i _ (by rw [bx_size]; omega), cond_false, q21_3_eq]
    exact h
  | succ d ih =>
    intro i hi hd h m hm
    obtain ⟨m, rfl⟩ : ∃ m', m = m' + 1 := ⟨m - 1, by omega⟩
    rcases drop_cases l i hi with ⟨e, _⟩ | ⟨hlt, c, t, hc, ht⟩
    · omega
    · have hb := get_bx l i c t hc
      rw [hc] at h
      rw [l21_1_eq, lt_yes i _ (by rw [bx_size]; exact hlt), cond_true, show decide ((0 : Int) ≤ Int.ofNat i) = true from decide_eq_true (Int.natCast_nonneg i), Bool.true_and, cond_true, hb]
      by_cases hn : c.toNat = 10
      · rw [List.takeWhile_cons_of_neg (by simp [nnl, hn])] at h
        rw [bne, show (Int.ofNat c.toNat == 10) = true from byte_yes (n := 10) hn, Bool.not_true, cond_false, q21_3_eq]
        exact h
      · rw [List.takeWhile_cons_of_pos (by simp [nnl, hn])] at h
        rw [bne, show (Int.ofNat c.toNat == 10) = false from byte_no (n := 10) hn, Bool.not_false, cond_true, q21_2_eq, wrap_up i (by omega)]
        exact ih (i + 1) (by omega) (by omega) (by rw [ht]; simpa [Nat.add_assoc, Nat.add_comm 1] using h) m (by omega)
theorem L_scan (l : List UInt8) (hl : l.length ≤ 1000000) (x4 : Int) (s5 : ByteArray) (x6 x7 : Int) : ∀ (d i : Nat), l.length - i < d → i ≤ l.length → ∀ (line : Nat) (b : Nat), b ≤ i → line ≤ i + 1 → 
    Ev (fun m k n => l21_0 m (Ak k) n (bx l) (Int.ofNat line) (Int.ofNat b) (Int.ofNat i) x4 s5 x6 x7) (RV (tokOut [] (scan (l.drop i) (Int.ofNat line) (Int.ofNat i - Int.ofNat b + 1)))) := by
  intro d
  induction d with
  | zero => intro i h; omega
  | succ d ih =>
    intro i hd hi line b hb hline
    refine Ev.step ?_
    simp only [l21_0_eq]
    rcases drop_cases l i hi with ⟨e, hnil⟩ | ⟨hlt, c, t, hc, ht⟩
    · subst e
      rw [hnil, scan]
      refine Ev.no (lt_no _ _ (by rw [bx_size]; omega)) ?_
      simp only [q21_6_eq, bx_size, col_wrap l.length b hb hl]
      exact Ev.of fun m k n => rfl
    · have hget := get_bx l i c t hc
      refine Ev.yes (lt_yes i _ (by rw [bx_size]; exact hlt)) ?_
      simp only [q21_1_eq, hget, wrap_up i (show i < 9223372036854775807 by omega), wrap_up line (show line < 9223372036854775807 by omega)]
      refine Ev.yes (in_range i _ (by rw [bx_size]; exact hlt)) ?_
      rw [hc, scan]
      have next : Ev (fun m k n => l21_0 m (Ak k) n (bx l) (Int.ofNat line) (Int.ofNat b) (Int.ofNat (i + 1)) x4 s5 x6 x7) (RV (tokOut [] (scan t (Int.ofNat line) (Int.ofNat i - Int.ofNat b + 1 + 1)))) := by
        have := ih (i + 1) (by omega) (by omega) line b (by omega) (by omega)
        rw [ht] at this
        have e1 : Int.ofNat (i + 1) - Int.ofNat b + 1 = Int.ofNat i - Int.ofNat b + 1 + 1 := by simp only [Int.ofNat_eq_natCast]; omega
        rw [e1] at this
        exact this
      by_cases h10 : c.toNat = 10
      · rw [if_pos h10]
        refine Ev.yes (byte_yes (n := 10) h10) ?_
        have := ih (i + 1) (by omega) (by omega) (line + 1) (i + 1) (by omega) (by omega)
        rw [ht, Int.sub_self] at this
        exact this
      rw [if_neg h10]
      refine Ev.no (byte_no (n := 10) h10) ?_
      by_cases h32 : c.toNat = 32
      · rw [if_pos (by simp [ws, h32])]
        exact Ev.yes (byte_yes (n := 32) h32) next
      refine Ev.no (byte_no (n := 32) h32) ?_
      by_cases h9 : c.toNat = 9
      · rw [if_pos (by simp [ws, h9])]
        exact Ev.yes (byte_yes (n := 9) h9) next
      refine Ev.no (byte_no (n := 9) h9) ?_
      by_cases h13 : c.toNat = 13
      · rw [if_pos (by simp [ws, h13])]
        exact Ev.yes (byte_yes (n := 13) h13) next
      refine Ev.no (byte_no (n := 13) h13) ?_
      rw [if_neg (by simp [ws, h32, h9, h13])]
      by_cases h35 : c.toNat = 35
      · rw [if_pos h35]
        refine Ev.yes (byte_yes (n := 35) h35) ?_
        have hle : (t.takeWhile nnl).length ≤ t.length := (List.takeWhile_sublist nnl).length_le
        have htl : t.length = l.length - i - 1 := by
          have := congrArg List.length hc
          rw [List.length_drop, List.length_cons] at this
          omega
        have hdw : l.drop (i + 1 + (t.takeWhile nnl).length) = t.dropWhile nnl := by
          rw [← List.drop_drop, ht]
          have := List.takeWhile_append_dropWhile (p := nnl) (l := t)
          conv => lhs; rw [← this]
          rw [List.drop_append_of_le_length (by rw [this]; exact Nat.le_refl _) |>.trans (by rw [this])] <;> simp
        have := ih (i + 1 + (t.takeWhile nnl).length) (by omega) (by omega) line b (by omega) (by omega)
        rw [hdw] at this
        have e1 : Int.ofNat (i + 1 + (t.takeWhile nnl).length) - Int.ofNat b + 1 = Int.ofNat i - Int.ofNat b + 1 + 1 + ((t.takeWhile nnl).length : Int) := by simp only [Int.ofNat_eq_natCast]; omega
        rw [e1] at this
        obtain ⟨K, hK⟩ := this
        refine ⟨K + l.length + 1, fun m k n h1 h2 h3 => ?_⟩
        refine L_comment l hl _ _ _ _ _ _ (Ak k) m n _ (l.length - i) i hi rfl ?_ m (by omega)
        rw [hc, List.takeWhile_cons_of_pos (by simp [nnl, h35]), List.length_cons]
        rw [show i + ((t.takeWhile nnl).length + 1) = i + 1 + (t.takeWhile nnl).length by omega]
        exact hK m k n (by omega) (by omega) (by omega)
      rw [if_neg h35]
      refine Ev.no (byte_no (n := 35) h35) ?_
      have hext : (bx l).extract (Int.toNat (Int.ofNat i)) (Int.toNat (Int.ofNat l.length)) = bx (c :: t) := by
        rw [ext_bx, ← hc]
        show bx ((l.take l.length).drop i) = _
        rw [List.take_length]
      simp only [q21_4_eq, bx_size, hext]
      refine Ev.yes (by simp only [Int.ofNat_eq_natCast, Bool.and_eq_true, decide_eq_true_eq]; omega) ?_
      have hone := C_one (c :: t) (by simp) (by rw [← hc, List.length_drop]; omega)
      cases htok : tok (c :: t) with
      | bad e w =>
        rw [htok] at hone
        refine v_t2a5ISIIIoI hone (Ev.yes (by simpa using tok_bad htok) (Ev.of fun m k n => ?_))
        rw [col_wrap i b hb (by omega)]
        rfl
      | ok κ w n =>
        rw [htok] at hone
        refine v_t2a5ISIIIoI hone (Ev.no rfl ?_)
        have hw := tok_take htok
        have hwl : 1 ≤ w.length := by
          cases w with
          | nil => exact absurd rfl hw.2
          | cons => simp
        have hwle : w.length ≤ (c :: t).length := by
          have := congrArg List.length hw.1
          rw [List.length_take] at this
          omega
        have htl : (c :: t).length = l.length - i := by rw [← hc, List.length_drop]
        have hdr : l.drop (i + w.length) = t.drop (w.length - 1) := by
          rw [← List.drop_drop, hc]
          cases w with
          | nil => exact absurd rfl hw.2
          | cons a w' => rfl
        simp only [q21_5_eq, bx_size, add_wrap i w.length (by omega), col_wrap i b hb (by omega : i ≤ 1000000)]
        show Ev _ (RV (tokOut [] (match scan (t.drop (w.length - 1)) (Int.ofNat line) (Int.ofNat i - Int.ofNat b + 1 + (w.length : Int)) with | .error f => .error f | .ok l => .ok (⟨κ, w, n, Int.ofNat line, Int.ofNat i - Int.ofNat b + 1⟩ :: l))))
        rw [tokOut_cons]
        have e1 : Int.ofNat (i + w.length) - Int.ofNat b + 1 = Int.ofNat i - Int.ofNat b + 1 + (w.length : Int) := by simp only [Int.ofNat_eq_natCast]; omega
        have := L_scan_v1 l hl x4 s5 x6 x7 (l.length + 1) (i + w.length) (by omega) (by omega) [⟨κ, w, n, Int.ofNat line, Int.ofNat i - Int.ofNat b + 1⟩] line b (by omega) (by omega) (by simp only [List.length_singleton]; omega)
        rw [hdr, e1] at this
        exact this
theorem C_tokens (l : List UInt8) : Cal 21 [V.one (X.d (D.str (bx l)))] [] (RV (if 20000 < l.length then V.tup [V.one (X.d (D.list 5 [])), V.agg [iX 2, sX [], iX 0, iX 0]] else tokOut [] (scan l 1 1))) := by
  refine call21 _ ?_
  simp only [e21_eq, bx_size]
  by_cases h : 20000 < l.length
  · rw [if_pos h]
    exact Ev.yes (decide_eq_true (by show (20000 : Int) < Int.ofNat l.length; simp only [Int.ofNat_eq_natCast]; omega)) (Ev.ret _)
  · rw [if_neg h]
    refine Ev.no (decide_eq_false (by show ¬ (20000 : Int) < Int.ofNat l.length; simp only [Int.ofNat_eq_natCast]; omega)) ?_
    simp only [q21_0_eq]
    have := fun (x4 : Int) (s5 : ByteArray) (x6 x7 : Int) => L_scan l (by omega) x4 s5 x6 x7 (l.length + 1) 0 (by omega) (by omega) 1 0 (by omega) (by omega)
    exact Ev.diag (this _ _ _ _)
end Go.Proofs.Ytbmcafehpgimfaa.Ps
