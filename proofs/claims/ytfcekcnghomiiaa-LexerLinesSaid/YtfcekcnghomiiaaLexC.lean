/- What the printed functions of the lexer and of its reference compute: the plain scanner's answers. -/
import Derived.Test.YtfcekcnghomiiaaLexB
import Derived.Test.YtfcekcnghomiiaaX7
namespace Go.Proofs.Ytfcekcnghomiiaa
open Go.RowKit Go.Proofs.YtfcekcnghomiiaaW.PrintWords Go.Proofs.YtfcekcnghomiiaaW.PrintLast Go.Proofs.YtfcekcnghomiiaaW.PrintMore
namespace X
open Lx

theorem mem_takeWhile (p : UInt8 → Bool) : ∀ (l : List UInt8) (x : UInt8), x ∈ l.takeWhile p → p x = true
  | [], x, h => by simp at h
  | c :: t, x, h => by
    by_cases hc : p c = true
    · rw [List.takeWhile_cons_of_pos hc] at h
      rcases List.mem_cons.1 h with h | h
      · rw [h]; exact hc
      · exact mem_takeWhile p t x h
    · rw [List.takeWhile_cons_of_neg hc] at h; simp at h

theorem u8_back (c : UInt8) : c.toNat.toUInt8 = c := by simp

theorem small_f (c : UInt8) : lexer_small.f (c.toNat : Int) = some (sm c) := by
  unfold lexer_small.f sm
  by_cases h : 97 ≤ c.toNat
  · rw [if_pos (by omega), decide_eq_true h, Bool.true_and]
    congr 1
    exact decide_eq_decide.2 (by omega)
  · rw [if_neg (by omega), decide_eq_false h, Bool.false_and]
theorem digit_f (c : UInt8) : lexer_digit.f (c.toNat : Int) = some (dg c) := by
  unfold lexer_digit.f dg
  by_cases h : 48 ≤ c.toNat
  · rw [if_pos (by omega), decide_eq_true h, Bool.true_and]
    congr 1
    exact decide_eq_decide.2 (by omega)
  · rw [if_neg (by omega), decide_eq_false h, Bool.false_and]

theorem one_l0 (l : List UInt8) (hl : l.length ≤ 140737488351232) : ∀ (d i : Nat), i ≤ l.length → l.length - i = d → ∀ r, Ev (fun k => lexer_one.j1 k (bx l) ((i + ((l.drop i).takeWhile nm).length : Nat) : Int)) r → Ev (fun k => lexer_one.l0 k (bx l) (i : Int)) r := by
  intro d
  induction d with
  | zero =>
    intro i hi hd r h
    rw [List.drop_eq_nil_of_le (by omega)] at h
    refine ev1 h fun k hk => ?_
    simp only [lexer_one.l0]
    rw [if_neg (by rw [bx_size]; omega)]
    exact hk
  | succ d ih =>
    intro i hi hd r h
    rcases drop_cases l i hi with ⟨e, _⟩ | ⟨hlt, c, t, hc, ht⟩
    · omega
    · have hb := bt_bx l i c t hc
      rw [hc] at h
      by_cases hn : nm c = true
      · rw [List.takeWhile_cons_of_pos hn] at h
        have h2 := ih (i + 1) (by omega) (by omega) r (by rw [ht]; simpa [Nat.add_assoc, Nat.add_comm 1] using h)
        refine ev1 h2 fun k hk => ?_
        simp only [lexer_one.l0]
        rw [if_pos (by rw [bx_size]; omega), if_pos (by omega), hb, small_f, w1 i (by omega)]
        simp only [Option.bind_some]
        by_cases h1 : sm c = true
        · rw [if_pos h1]; exact hk
        · rw [if_neg h1, digit_f]
          simp only [Option.bind_some]
          by_cases h3 : dg c = true
          · rw [if_pos h3]; exact hk
          · rw [if_neg h3, if_pos (by simp [nm, h1, h3] at hn; omega)]; exact hk
      · rw [List.takeWhile_cons_of_neg hn] at h
        refine ev1 h fun k hk => ?_
        simp only [lexer_one.l0]
        have h1 : sm c = false := by
          cases e : sm c
          · rfl
          · exact absurd (sm_nm e) hn
        have h3 : dg c = false := by
          cases e : dg c
          · rfl
          · exact absurd (by simp [nm, e]) hn
        have h4 : ¬ ((c.toNat : Int) = 95) := fun e => hn (by simp [nm]; omega)
        rw [if_pos (by rw [bx_size]; omega), if_pos (by omega), hb, small_f, digit_f, h1, h3]
        simp only [Option.bind_some]
        rw [if_neg (by decide), if_neg (by decide), if_neg h4]
        exact hk

/-- A result of the scanner as the lexer tells it. -/
def Rout (r : R) (q : Int × ByteArray × Int × Int × Int × Int) : Prop :=
  match r with
  | .ok k w n => q = (k, bx w, n, 0, 0, 0)
  | .bad e w => q.2.1 = bx w ∧ q.2.2.2.2.2 = e ∧ e ≠ 0

theorem one_j1 (l : List UInt8) (n : Nat) (_hl : l.length ≤ 140737488351232) (hn : n ≤ l.length) (hw : ∀ c ∈ l.take n, nm c = true) (hne : l.take n ≠ []) :
    ∃ q, Ev (fun k => lexer_one.j1 k (bx l) (n : Int)) q ∧ Rout (if 24 < n then .bad 2 (l.take n) else if isWord (l.take n) then .ok 2 (l.take n) 0 else .ok 1 (l.take n) 0) q := by
  have he : (bx l).extract 0 ((n : Int)).toNat = bx (l.take n) := by rw [ext_bx]; simp
  by_cases h : 24 < n
  · refine ⟨_, ev0 fun k => by simp only [lexer_one.j1]; rw [if_pos (by omega), if_pos (by omega), if_pos (by rw [bx_size]; omega), he], ?_⟩
    rw [if_pos h]
    exact ⟨rfl, rfl, by decide⟩
  · have hc : strings_Contains.f (bx wordText) (bx [32] ++ bx (l.take n) ++ bx [32]) = some (isWord (l.take n)) := by
      unfold strings_Contains.f
      rw [if_pos (by rw [bx_size]; decide), bx_append, bx_append, bx_data, bx_data, ← contains_isWord _ hw hne]
      simp
    have hz : ∀ k, lexer_one.j1 (k + 1) (bx l) (n : Int) = some (if isWord (l.take n) then (2, bx (l.take n), 0, 0, 0, 0) else (1, bx (l.take n), 0, 0, 0, 0)) := by
      intro k
      simp only [lexer_one.j1]
      rw [if_neg (by omega), if_pos (by omega), if_pos (by rw [bx_size]; omega), he, if_pos (by rw [bx_size, List.length_take]; omega),
        if_pos (by show (bx [32] ++ bx (l.take n)).size + 1 ≤ _; rw [bx_append, bx_size, List.length_append, List.length_take]; simp; omega)]
      show (strings_Contains.f (bx wordText) (bx [32] ++ bx (l.take n) ++ bx [32])).bind _ = _
      rw [hc]
      simp only [Option.bind_some]
      by_cases hi : isWord (l.take n) = true
      · rw [if_pos hi, if_pos hi]
      · rw [if_neg hi, if_neg hi]
    refine ⟨_, ev0 hz, ?_⟩
    rw [if_neg h]
    by_cases hi : isWord (l.take n) = true
    · rw [if_pos hi, if_pos hi]; rfl
    · rw [if_neg hi, if_neg hi]; rfl

/-- A value, cut off. -/
def cap (v : Nat) : Int := if (v : Int) ≤ 2147483647 then (v : Int) else 2147483648

theorem one_l1 (l : List UInt8) (hl : l.length ≤ 140737488351232) : ∀ (d i : Nat), i ≤ l.length → l.length - i = d → (∀ c ∈ l.take i, dg c = true) →
    ∀ r, Ev (fun k => lexer_one.j3 k (bx l) ((i + ((l.drop i).takeWhile dg).length : Nat) : Int) (cap (val (l.take (i + ((l.drop i).takeWhile dg).length))))) r →
    Ev (fun k => lexer_one.l1 k (bx l) (i : Int) (cap (val (l.take i)))) r := by
  intro d
  induction d with
  | zero =>
    intro i hi hd hw r h
    rw [List.drop_eq_nil_of_le (by omega)] at h
    refine ev1 h fun k hk => ?_
    simp only [lexer_one.l1]
    rw [if_neg (by rw [bx_size]; omega)]
    exact hk
  | succ d ih =>
    intro i hi hd hw r h
    rcases drop_cases l i hi with ⟨e, _⟩ | ⟨hlt, c, t, hc, ht⟩
    · omega
    · have hb := bt_bx l i c t hc
      have hlc : l[i] = c := by
        rw [List.drop_eq_getElem_cons hlt] at hc
        injection hc
      have hsn : l.take (i + 1) = l.take i ++ [c] := by rw [List.take_succ_eq_append_getElem hlt, hlc]
      rw [hc] at h
      by_cases hn : dg c = true
      · rw [List.takeWhile_cons_of_pos hn] at h
        have h48 : 48 ≤ c.toNat ∧ c.toNat ≤ 57 := by simpa [dg] using hn
        have h2 := ih (i + 1) (by omega) (by omega) (by rw [hsn]; intro x hx; rcases List.mem_append.1 hx with hx | hx; exact hw x hx; rw [List.mem_singleton.1 hx]; exact hn) r
          (by rw [ht]; simpa [Nat.add_assoc, Nat.add_comm 1] using h)
        refine ev1 h2 fun k hk => ?_
        simp only [lexer_one.l1]
        rw [if_pos (by rw [bx_size]; omega), if_pos (by omega), hb, digit_f, w1 i (by omega)]
        simp only [Option.bind_some]
        rw [if_pos hn]
        rw [hsn, val_snoc] at hk
        generalize val (l.take i) = v at hk ⊢
        have e1 : mn (wrap64 (wrap64 (cap v * 10) + ((c.toNat : Int) - 48) % 256)) 2147483648 = cap (v * 10 + (c.toNat - 48)) := by
          unfold wrap64 mn cap
          split <;> split <;> omega
        rw [e1]
        exact hk
      · rw [List.takeWhile_cons_of_neg hn] at h
        refine ev1 h fun k hk => ?_
        simp only [lexer_one.l1]
        have h3 : dg c = false := by simpa using hn
        rw [if_pos (by rw [bx_size]; omega), if_pos (by omega), hb, digit_f, h3]
        simp only [Option.bind_some]
        rw [if_neg (by decide)]
        exact hk

theorem one_j3 (l : List UInt8) (n : Nat) (hn : n ≤ l.length) :
    ∃ q, Ev (fun k => lexer_one.j3 k (bx l) (n : Int) (cap (val (l.take n)))) q ∧ Rout (if 2147483647 < val (l.take n) then .bad 2 (l.take n) else .ok 3 (l.take n) (val (l.take n))) q := by
  have he : (bx l).extract 0 ((n : Int)).toNat = bx (l.take n) := by rw [ext_bx]; simp
  generalize val (l.take n) = v
  generalize l.take n = w at he
  by_cases h : 2147483647 < v
  · have hc : cap v = 2147483648 := by unfold cap; rw [if_neg (by omega)]
    refine ⟨_, ev0 fun k => by simp only [lexer_one.j3]; rw [hc, if_pos (by omega), if_pos (by omega), if_pos (by rw [bx_size]; omega), he], ?_⟩
    rw [if_pos h]
    exact ⟨rfl, rfl, by decide⟩
  · have hc : cap v = (v : Int) := by unfold cap; rw [if_pos (by omega)]
    refine ⟨_, ev0 fun k => by simp only [lexer_one.j3]; rw [hc, if_neg (by omega), if_pos (by omega), if_pos (by rw [bx_size]; omega), he], ?_⟩
    rw [if_neg h]
    rfl

/-! ### The signs -/
theorem hasPrefix_yes (l p : List UInt8) (h : l.take p.length = p) : strings_HasPrefix.f (bx l) (bx p) = some true := by
  unfold strings_HasPrefix.f stringslite_HasPrefix.f
  have hl := congrArg List.length h
  rw [List.length_take] at hl
  rw [bx_size, bx_size, if_pos (by omega), if_pos (by omega), if_pos (by omega), ext_bx, bx_toList, bx_toList]
  simp only [Option.bind_some]
  rw [Int.toNat_natCast, List.drop_zero, h]
  simp
theorem hasPrefix_no (l p : List UInt8) (h : l.take p.length ≠ p) : strings_HasPrefix.f (bx l) (bx p) = some false := by
  unfold strings_HasPrefix.f stringslite_HasPrefix.f
  rw [bx_size, bx_size]
  by_cases hl : p.length ≤ l.length
  · rw [if_pos (by omega), if_pos (by omega), if_pos (by omega), ext_bx, bx_toList, bx_toList]
    simp only [Option.bind_some]
    rw [Int.toNat_natCast, List.drop_zero]
    simpa using h
  · rw [if_neg (by omega)]
    rfl

theorem sign_l0 (l : List UInt8) (hne : l ≠ []) : ∀ (d i : Nat), i ≤ 4 → 4 - i = d → 
    Ev (fun k => lexer_sign.l0 k (bx l) [bx [61, 61], bx [61, 62], bx [60, 61], bx [58, 58]] 4 (i : Int)) (bx (if has (twos.drop i) (l.take 2) then l.take 2 else if hasB ones (l.headD 0) then l.take 1 else [])) := by
  intro d
  induction d with
  | zero =>
    intro i hi hd
    obtain rfl : i = 4 := by omega
    refine ev0 fun k => ?_
    simp only [lexer_sign.l0]
    obtain ⟨c, t, rfl⟩ : ∃ c t, l = c :: t := by cases l with | nil => exact absurd rfl hne | cons c t => exact ⟨c, t, rfl⟩
    rw [if_neg (by decide), if_pos (by rw [bx_size]; simp)]
    have hb := bt_bx (c :: t) 0 c t rfl
    have hb' : bt (bx (c :: t)) 0 = (c.toNat : Int) := hb
    rw [hb']
    have hi : strings_IndexByte.f (⟨#[40, 41, 91, 93, 123, 125, 44, 59, 58, 124, 43, 45, 42, 47, 37, 61, 60]⟩ : ByteArray) (c.toNat : Int) = some (Lib.indexByte ones c) := by
      unfold strings_IndexByte.f
      rw [Int.toNat_natCast, u8_back]
      rfl
    rw [hi]
    simp only [Option.bind_some]
    have hz := indexByte_has ones c
    have drop4 : ¬ (has (twos.drop 4) ((c :: t).take 2) = true) := fun h => by cases h
    by_cases h : hasB ones c = true
    · rw [if_pos (hz.2 h), if_pos (by decide), if_pos (by rw [bx_size, List.length_cons]; omega), ext_bx]
      have : hasB ones ((c :: t).headD 0) = true := h
      rw [if_neg drop4, if_pos this]
      rfl
    · rw [if_neg (fun e => h (hz.1 e))]
      have : ¬ (hasB ones ((c :: t).headD 0) = true) := h
      rw [if_neg drop4, if_neg this]
      rfl
  | succ d ih =>
    intro i hi hd
    have hlt : i < twos.length := by show i < 4; omega
    have h2 := ih (i + 1) (by omega) (by omega)
    have hdr : twos.drop i = twos[i] :: twos.drop (i + 1) := List.drop_eq_getElem_cons hlt
    have hlen : twos[i].length = 2 := by
      have : ∀ x ∈ twos, x.length = 2 := by decide
      exact this _ (List.getElem_mem hlt)
    have hrd : rdOf ByteArray.empty [bx [61, 61], bx [61, 62], bx [60, 61], bx [58, 58]] (i : Int) = bx twos[i] := by
      have : ∀ j : Fin twos.length, [bx [61, 61], bx [61, 62], bx [60, 61], bx [58, 58]].getD j.1 ByteArray.empty = bx twos[j] := by
        intro j
        match j with
        | ⟨0, _⟩ => rfl
        | ⟨1, _⟩ => rfl
        | ⟨2, _⟩ => rfl
        | ⟨3, _⟩ => rfl
      unfold rdOf
      rw [Int.toNat_natCast]
      exact this ⟨i, hlt⟩
    refine ev1 h2 fun k hk => ?_
    simp only [lexer_sign.l0]
    have hlt4 : i < 4 := hlt
    rw [if_pos (by omega), if_pos (by omega), if_pos (by show (i : Int) < 4; omega), hrd, hdr]
    by_cases h : l.take 2 = twos[i]'hlt
    · rw [hasPrefix_yes l _ (by rw [hlen]; exact h), has_yes _ h]
      simp only [Option.bind_some]
      rw [if_pos trivial, if_pos trivial, h]
    · rw [hasPrefix_no l _ (by rw [hlen]; exact h), has_no _ h]
      simp only [Option.bind_some]
      rw [if_neg (by decide), w1 i (by omega)]
      exact hk

theorem sign_f (l : List UInt8) (hne : l ≠ []) : Ev (fun k => lexer_sign.f k (bx l)) (bx (sgn l)) := by
  refine ev1z (sign_l0 l hne 4 0 (by omega) (by omega)) fun k hk => ?_
  unfold lexer_sign.f
  simp only [Option.bind_some]
  exact hk

theorem one_f (l : List UInt8) (hne : l ≠ []) (hl : l.length ≤ 140737488351232) : ∃ q, Ev (fun k => lexer_one.f k (bx l)) q ∧ Rout (tok l) q := by
  obtain ⟨c, t, rfl⟩ : ∃ c t, l = c :: t := by cases l with | nil => exact absurd rfl hne | cons c t => exact ⟨c, t, rfl⟩
  have hb : bt (bx (c :: t)) 0 = (c.toNat : Int) := bt_bx (c :: t) 0 c t rfl
  have hp : 0 < ((bx (c :: t)).size : Int) := by rw [bx_size, List.length_cons]; omega
  unfold tok
  show ∃ q, _ ∧ Rout (if sm c then _ else if dg c then _ else _) q
  by_cases h1 : sm c = true
  · rw [if_pos h1]
    have hn := takeWhile_len nm (c :: t)
    have hle : ((c :: t).takeWhile nm).length ≤ (c :: t).length := (List.takeWhile_sublist nm).length_le
    obtain ⟨q, hq, hr⟩ := one_j1 (c :: t) ((c :: t).takeWhile nm).length hl hle (by rw [hn]; exact fun x hx => mem_takeWhile nm _ x hx) (by rw [hn, List.takeWhile_cons_of_pos (sm_nm h1)]; simp)
    rw [hn] at hr
    refine ⟨q, ?_, hr⟩
    refine ev1z (one_l0 (c :: t) hl _ 0 (by omega) rfl q (by simpa using hq)) fun k hk => ?_
    unfold lexer_one.f
    rw [if_pos hp, hb, small_f]
    simp only [Option.bind_some]
    rw [if_pos h1]
    exact hk
  · rw [if_neg h1]
    have h1' : sm c = false := by simpa using h1
    by_cases h2 : dg c = true
    · rw [if_pos h2]
      have hn := takeWhile_len dg (c :: t)
      have hle : ((c :: t).takeWhile dg).length ≤ (c :: t).length := (List.takeWhile_sublist dg).length_le
      obtain ⟨q, hq, hr⟩ := one_j3 (c :: t) ((c :: t).takeWhile dg).length hle
      refine ⟨q, ?_, by rw [hn] at hr; exact hr⟩
      refine ev1z (one_l1 (c :: t) hl _ 0 (by omega) rfl (by simp) q (by simpa using hq)) fun k hk => ?_
      unfold lexer_one.f
      rw [if_pos hp, hb, small_f, digit_f]
      simp only [Option.bind_some]
      rw [if_neg h1, if_pos h2]
      exact hk
    · rw [if_neg h2]
      by_cases h3 : sgn (c :: t) = []
      · rw [if_pos h3]
        refine ⟨(0, bx [c], 0, 0, 0, 10), ?_, rfl, rfl, by decide⟩
        refine ev1z (sign_f (c :: t) (by simp)) fun k hk => ?_
        unfold lexer_one.f
        rw [if_pos hp, hb, small_f, digit_f]
        simp only [Option.bind_some]
        rw [if_neg h1, if_neg h2, hk]
        simp only [Option.bind_some]
        rw [h3, bx_toList, if_pos rfl, if_pos (by decide), if_pos (by omega), ext_bx]
        rfl
      · rw [if_neg h3]
        refine ⟨(4, bx (sgn (c :: t)), 0, 0, 0, 0), ?_, rfl⟩
        refine ev1z (sign_f (c :: t) (by simp)) fun k hk => ?_
        unfold lexer_one.f
        rw [if_pos hp, hb, small_f, digit_f]
        simp only [Option.bind_some]
        rw [if_neg h1, if_neg h2, hk]
        simp only [Option.bind_some]
        rw [bx_toList, if_neg h3]

/-! ### The whole text -/
def t36 (t : Tok) : S36 := ⟨t.kind, bx t.text, t.n, t.line, t.col⟩
def out36 (acc : List S36) : Except Flt (List Tok) → List S36 × Int × ByteArray × Int × Int
  | .ok l => (acc ++ l.map t36, 0, bx [], 0, 0)
  | .error f => ([], f.e, bx f.text, f.line, f.col)

theorem nnl_10 {c : UInt8} : nnl c = false ↔ c.toNat = 10 := by simp [nnl]

theorem tokens_l1 (l : List UInt8) (hl : l.length ≤ 140737488351232) (acc : List S36) (line begin : Int) : ∀ (d i : Nat), i ≤ l.length → l.length - i = d → ∀ r,
    Ev (fun k => lexer_Tokens.l0 k (bx l) acc line begin ((i + ((l.drop i).takeWhile nnl).length : Nat) : Int)) r → Ev (fun k => lexer_Tokens.l1 k (bx l) acc line begin (i : Int)) r := by
  intro d
  induction d with
  | zero =>
    intro i hi hd r h
    rw [List.drop_eq_nil_of_le (by omega)] at h
    refine ev1 h fun k hk => ?_
    simp only [lexer_Tokens.l1]
    rw [if_neg (by rw [bx_size]; omega)]
    exact hk
  | succ d ih =>
    intro i hi hd r h
    rcases drop_cases l i hi with ⟨e, _⟩ | ⟨hlt, c, t, hc, ht⟩
    · omega
    · have hb := bt_bx l i c t hc
      rw [hc] at h
      by_cases hn : nnl c = true
      · rw [List.takeWhile_cons_of_pos hn] at h
        have h2 := ih (i + 1) (by omega) (by omega) r (by rw [ht]; simpa [Nat.add_assoc, Nat.add_comm 1] using h)
        refine ev1 h2 fun k hk => ?_
        simp only [lexer_Tokens.l1]
        have h10 : ¬ ((c.toNat : Int) = 10) := by simp [nnl] at hn; omega
        rw [if_pos (by rw [bx_size]; omega), if_pos (by omega), hb, if_neg h10, w1 i (by omega)]
        exact hk
      · rw [List.takeWhile_cons_of_neg hn] at h
        refine ev1 h fun k hk => ?_
        simp only [lexer_Tokens.l1]
        have h10 : (c.toNat : Int) = 10 := by simp [nnl] at hn; omega
        rw [if_pos (by rw [bx_size]; omega), if_pos (by omega), hb, if_pos h10]
        exact hk

theorem dropWhile_drop (p : UInt8 → Bool) : ∀ (l : List UInt8), l.dropWhile p = l.drop (l.takeWhile p).length
  | [] => rfl
  | c :: t => by
    by_cases hc : p c = true
    · rw [List.takeWhile_cons_of_pos hc, List.dropWhile_cons_of_pos hc]
      exact dropWhile_drop p t
    · rw [List.takeWhile_cons_of_neg hc, List.dropWhile_cons_of_neg hc]; rfl

theorem tokens_l0 (l : List UInt8) (hl : l.length ≤ 20000) : ∀ (d i : Nat), i ≤ l.length → l.length - i = d → ∀ (acc : List S36) (line begin : Int), acc.length ≤ i → 1 ≤ line → line ≤ i + 1 → 0 ≤ begin → begin ≤ i →
    Ev (fun k => lexer_Tokens.l0 k (bx l) acc line begin (i : Int)) (out36 acc (scan (l.drop i) line (i - begin + 1))) := by
  intro d
  induction d using Nat.strongRecOn with
  | _ d ih =>
  intro i hi hd acc line begin ha hl1 hl2 hb1 hb2
  rcases drop_cases l i hi with ⟨e, he⟩ | ⟨hlt, c, t, hc, ht⟩
  · rw [he]
    refine ev0 fun k => ?_
    simp only [lexer_Tokens.l0]
    rw [if_neg (by rw [bx_size]; omega), if_pos (by omega), bx_size, wid (x := (l.length : Int) - begin) (by omega) (by omega), wid (x := (l.length : Int) - begin + 1) (by omega) (by omega), scan]
    subst e
    rfl
  · have hb := bt_bx l i c t hc
    have hsz : (i : Int) < ((bx l).size : Int) := by rw [bx_size]; omega
    rw [hc]
    by_cases c10 : c.toNat = 10
    · have h2 := ih (l.length - (i + 1)) (by omega) (i + 1) (by omega) rfl acc (line + 1) ((i : Int) + 1) (by omega) (by omega) (by omega) (by omega) (by omega)
      rw [scan, if_pos c10]
      rw [ht, show (((i + 1 : Nat) : Int) - ((i : Int) + 1) + 1) = 1 by omega] at h2
      refine ev1 h2 fun k hk => ?_
      simp only [lexer_Tokens.l0]
      rw [if_pos hsz, if_pos (by omega), hb, if_pos (by omega), w1 i (by omega), wid (x := line + 1) (by omega) (by omega)]
      exact hk
    · by_cases cw : ws c = true
      · have h2 := ih (l.length - (i + 1)) (by omega) (i + 1) (by omega) rfl acc line begin (by omega) (by omega) (by omega) (by omega) (by omega)
        rw [scan, if_neg c10, if_pos cw]
        rw [ht, show (((i + 1 : Nat) : Int) - begin + 1) = (i : Int) - begin + 1 + 1 by omega] at h2
        have h3 : Ev (fun k => lexer_Tokens.j1 k (bx l) acc line begin (i : Int) (c.toNat : Int) true) (out36 acc (scan t line ((i : Int) - begin + 1 + 1))) := by
          refine ev1 h2 fun k hk => ?_
          simp only [lexer_Tokens.j1]
          rw [if_pos trivial, w1 i (by omega)]
          exact hk
        refine ev1 h3 fun k hk => ?_
        simp only [lexer_Tokens.l0]
        rw [if_pos hsz, if_pos (by omega), hb, if_neg (by omega)]
        by_cases c32 : c.toNat = 32
        · rw [if_pos (by omega)]; exact hk
        · rw [if_neg (by omega)]
          by_cases c9 : c.toNat = 9
          · rw [if_pos (by omega)]; exact hk
          · rw [if_neg (by omega)]
            have c13 : c.toNat = 13 := by simp [ws, c32, c9] at cw; exact cw
            have : ((c.toNat : Int) == 13) = true := by rw [c13]; rfl
            rw [this]; exact hk
      · -- what is no blank
        have h32 : c.toNat ≠ 32 := fun e => cw (by simp [ws, e])
        have h9 : c.toNat ≠ 9 := fun e => cw (by simp [ws, e])
        have h13 : c.toNat ≠ 13 := fun e => cw (by simp [ws, e])
        have e13 : ((c.toNat : Int) == 13) = false := by simp; omega
        suffices h3 : Ev (fun k => lexer_Tokens.j1 k (bx l) acc line begin (i : Int) (c.toNat : Int) false) (out36 acc (scan (c :: t) line ((i : Int) - begin + 1))) by
          refine ev1 h3 fun k hk => ?_
          simp only [lexer_Tokens.l0]
          rw [if_pos hsz, if_pos (by omega), hb, if_neg (by omega), if_neg (by omega), if_neg (by omega), e13]
          exact hk
        by_cases c35 : c.toNat = 35
        · rw [scan, if_neg c10, if_neg cw, if_pos c35]
          have hnl : nnl c = true := by simp [nnl, c35]
          have hlen : (t.takeWhile nnl).length ≤ t.length := (List.takeWhile_sublist nnl).length_le
          have htl : t.length = l.length - (i + 1) := by rw [← ht, List.length_drop]
          have h2 := ih (l.length - (i + 1 + (t.takeWhile nnl).length)) (by omega) (i + 1 + (t.takeWhile nnl).length) (by omega) rfl acc line begin (by omega) (by omega) (by omega) (by omega) (by omega)
          rw [← List.drop_drop, ht, ← dropWhile_drop, show (((i + 1 + (t.takeWhile nnl).length : Nat) : Int) - begin + 1) = (i : Int) - begin + 1 + 1 + (t.takeWhile nnl).length by omega] at h2
          have h4 := tokens_l1 l (by omega) acc line begin _ i hi rfl _ (by rw [hc, List.takeWhile_cons_of_pos hnl, List.length_cons, show i + ((t.takeWhile nnl).length + 1) = i + 1 + (t.takeWhile nnl).length by omega]; exact h2)
          refine ev1 h4 fun k hk => ?_
          simp only [lexer_Tokens.j1]
          rw [if_neg (by decide), if_pos (by omega)]
          exact hk
        · rw [scan, if_neg c10, if_neg cw, if_neg c35]
          have hext : (bx l).extract ((i : Int)).toNat (bx l).size = bx (c :: t) := by
            rw [ext_bx, bx_size, List.take_of_length_le (Nat.le_refl _), Int.toNat_natCast, hc]
          have hlen : (c :: t).length = l.length - i := by rw [← hc, List.length_drop]
          obtain ⟨q, hq, hr⟩ := one_f (c :: t) (by simp) (by omega)
          cases htk : tok (c :: t) with
          | bad e w =>
            rw [htk] at hr
            obtain ⟨r1, r2, r3⟩ := hr
            refine ev1 hq fun k hk => ?_
            simp only [lexer_Tokens.j1]
            rw [if_neg (by decide), if_neg (by omega), if_pos (by omega), if_pos (by omega), hext, hk]
            simp only [Option.bind_some]
            rw [if_neg (by rw [r2]; exact r3), r1, r2, wid (x := (i : Int) - begin) (by omega) (by omega), wid (x := (i : Int) - begin + 1) (by omega) (by omega)]
            rfl
          | ok kd w n =>
            rw [htk] at hr
            obtain ⟨hw, hwn⟩ := tok_take htk
            have hwl : 1 ≤ w.length := by cases w with | nil => exact absurd rfl hwn | cons _ _ => simp
            have hwl2 : w.length ≤ (c :: t).length := by have := congrArg List.length hw; rw [List.length_take] at this; omega
            have hq' : q = (kd, bx w, n, 0, 0, 0) := hr
            subst hq'
            have h2 := ih (l.length - (i + w.length)) (by omega) (i + w.length) (by omega) rfl (acc ++ [t36 ⟨kd, w, n, line, (i : Int) - begin + 1⟩]) line begin (by rw [List.length_append, List.length_singleton]; omega) (by omega) (by omega) (by omega) (by omega)
            rw [show i + w.length = i + 1 + (w.length - 1) by omega, ← List.drop_drop, ht, show (((i + 1 + (w.length - 1) : Nat) : Int) - begin + 1) = (i : Int) - begin + 1 + w.length by omega] at h2
            have hout : out36 (acc ++ [t36 ⟨kd, w, n, line, (i : Int) - begin + 1⟩]) (scan (t.drop (w.length - 1)) line ((i : Int) - begin + 1 + w.length)) = out36 acc (match scan (t.drop (w.length - 1)) line ((i : Int) - begin + 1 + w.length) with | .error f => .error f | .ok l => .ok (⟨kd, w, n, line, (i : Int) - begin + 1⟩ :: l)) := by
              cases scan (t.drop (w.length - 1)) line ((i : Int) - begin + 1 + w.length) with
              | error f => rfl
              | ok l2 => simp [out36]
            rw [hout] at h2
            refine ev2 hq h2 fun k hk hk2 => ?_
            simp only [lexer_Tokens.j1]
            rw [if_neg (by decide), if_neg (by omega), if_pos (by omega), if_pos (by omega), hext, hk]
            simp only [Option.bind_some]
            rw [if_pos trivial, if_pos (by omega), bx_size, wid (x := (i : Int) - begin) (by omega) (by omega), wid (x := (i : Int) - begin + 1) (by omega) (by omega), wid (x := (i : Int) + (w.length : Int)) (by omega) (by omega),
              show (i : Int) + (w.length : Int) = ((i + 1 + (w.length - 1) : Nat) : Int) by omega]
            exact hk2

def lex (l : List UInt8) : Except Flt (List Tok) := if 20000 < l.length then .error ⟨2, [], 0, 0⟩ else scan l 1 1

theorem tokens_f (l : List UInt8) : Ev (fun k => lexer_Tokens.f k (bx l)) (out36 [] (lex l)) := by
  unfold lex
  by_cases h : 20000 < l.length
  · rw [if_pos h]
    refine ⟨0, fun k _ => ?_⟩
    show lexer_Tokens.f k (bx l) = _
    unfold lexer_Tokens.f
    rw [if_pos (by rw [bx_size]; omega)]
    rfl
  · rw [if_neg h]
    refine ev1z (tokens_l0 l (by omega) _ 0 (by omega) rfl [] 1 0 (by simp) (by omega) (by omega) (by omega) (by omega)) fun k hk => ?_
    unfold lexer_Tokens.f
    rw [if_neg (by rw [bx_size]; omega)]
    simpa using hk
end X
end Go.Proofs.Ytfcekcnghomiiaa
