/- What the printed functions of the lexer's reference compute: the plain scanner's answers. -/
import Derived.Test.YtfcekcnghomiiaaLexC
import Derived.Test.YtfcekcnghomiiaaX16
namespace Go.Proofs.Ytfcekcnghomiiaa
open Go.RowKit Go.Proofs.YtfcekcnghomiiaaW.PrintWords Go.Proofs.YtfcekcnghomiiaaW.PrintLast Go.Proofs.YtfcekcnghomiiaaW.PrintMore
namespace X
open Lx

theorem rsmall_f (c : UInt8) : sortilegeref05_small.f (c.toNat : Int) = some (sm c) := by
  unfold sortilegeref05_small.f sm
  by_cases h : 97 ≤ c.toNat
  · rw [if_pos (by omega), decide_eq_true h, Bool.true_and]
    congr 1
    exact decide_eq_decide.2 (by omega)
  · rw [if_neg (by omega), decide_eq_false h, Bool.false_and]
theorem rdigit_f (c : UInt8) : sortilegeref05_digit.f (c.toNat : Int) = some (dg c) := by
  unfold sortilegeref05_digit.f dg
  by_cases h : 48 ≤ c.toNat
  · rw [if_pos (by omega), decide_eq_true h, Bool.true_and]
    congr 1
    exact decide_eq_decide.2 (by omega)
  · rw [if_neg (by omega), decide_eq_false h, Bool.false_and]

theorem rtok_l0 (l : List UInt8) (hl : l.length ≤ 140737488351232) : ∀ (d i : Nat), i ≤ l.length → l.length - i = d → ∀ r, Ev (fun k => sortilegeref05_token.j1 k (bx l) ((i + ((l.drop i).takeWhile nm).length : Nat) : Int)) r → Ev (fun k => sortilegeref05_token.l0 k (bx l) (i : Int)) r := by
  intro d
  induction d with
  | zero =>
    intro i hi hd r h
    rw [List.drop_eq_nil_of_le (by omega)] at h
    refine ev1 h fun k hk => ?_
    simp only [sortilegeref05_token.l0]
    rw [if_neg (by rw [bx_size]; omega)]
    exact hk
  | succ d ih =>
    intro i hi hd r h
    rcases drop_cases l i hi with ⟨e, _⟩ | ⟨hlt, c, t, hc, ht⟩
    · omega
    · have hb := bt_bx l i c t hc
      rw [hc] at h
      by_cases hn : nm c = true
      · rw [List.takeWhile_cons_of_pos hn] at h
        have h2 := ih (i + 1) (by omega) (by omega) r (by rw [ht]; simpa [Nat.add_assoc, Nat.add_comm 1] using h)
        refine ev1 h2 fun k hk => ?_
        simp only [sortilegeref05_token.l0]
        rw [if_pos (by rw [bx_size]; omega), if_pos (by omega), hb, rsmall_f, w1 i (by omega)]
        simp only [Option.bind_some]
        by_cases h1 : sm c = true
        · rw [if_pos h1]; exact hk
        · rw [if_neg h1, rdigit_f]
          simp only [Option.bind_some]
          by_cases h3 : dg c = true
          · rw [if_pos h3]; exact hk
          · rw [if_neg h3, if_pos (by simp [nm, h1, h3] at hn; omega)]; exact hk
      · rw [List.takeWhile_cons_of_neg hn] at h
        refine ev1 h fun k hk => ?_
        simp only [sortilegeref05_token.l0]
        have h1 : sm c = false := by
          cases e : sm c
          · rfl
          · exact absurd (sm_nm e) hn
        have h3 : dg c = false := by
          cases e : dg c
          · rfl
          · exact absurd (by simp [nm, e]) hn
        have h4 : ¬ ((c.toNat : Int) = 95) := fun e => hn (by simp [nm]; omega)
        rw [if_pos (by rw [bx_size]; omega), if_pos (by omega), hb, rsmall_f, rdigit_f, h1, h3]
        simp only [Option.bind_some]
        rw [if_neg (by decide), if_neg (by decide), if_neg h4]
        exact hk


theorem isWord_l0 (w : List UInt8) : ∀ (d i : Nat), i ≤ 21 → 21 - i = d → Ev (fun k => sortilegeref05_IsWord.l0 k (bx w) (wordList.map bx) (i : Int)) (has (wordList.drop i) w) := by
  intro d
  have hlen : ((wordList.map bx).length : Int) = 21 := by rfl
  induction d with
  | zero =>
    intro i hi hd
    obtain rfl : i = 21 := by omega
    refine ev0 fun k => ?_
    simp only [sortilegeref05_IsWord.l0]
    rw [hlen, if_neg (by decide)]
    rfl
  | succ d ih =>
    intro i hi hd
    have hlt : i < wordList.length := by show i < 21; omega
    have h2 := ih (i + 1) (by omega) (by omega)
    have hdr : wordList.drop i = wordList[i] :: wordList.drop (i + 1) := List.drop_eq_getElem_cons hlt
    have hrd : (rdOf ByteArray.empty (wordList.map bx) (i : Int)).toList = wordList[i] := by
      unfold rdOf
      rw [Int.toNat_natCast, List.getD_eq_getElem?_getD, List.getElem?_map, List.getElem?_eq_getElem hlt]
      exact bx_toList _
    have hlt21 : i < 21 := hlt
    refine ev1 h2 fun k hk => ?_
    simp only [sortilegeref05_IsWord.l0]
    rw [hlen, if_pos (by omega), if_pos (by omega), hrd, bx_toList, hdr]
    by_cases h : wordList[i]'hlt = w
    · rw [if_pos h, has_yes _ h.symm]
    · rw [if_neg h, w1 i (by omega), hk, has_no _ (fun e => h e.symm)]

theorem isWord_f (w : List UInt8) : Ev (fun k => sortilegeref05_IsWord.f k (bx w)) (isWord w) := by
  refine ev1z (isWord_l0 w 21 0 (by omega) (by omega)) fun k hk => ?_
  unfold sortilegeref05_IsWord.f sortilegeref05_Words.f
  simp only [Option.bind_some]
  exact hk

theorem rtok_j1 (l : List UInt8) (n : Nat) (hn : n ≤ l.length) :
    ∃ q, Ev (fun k => sortilegeref05_token.j1 k (bx l) (n : Int)) q ∧ Rout (if 24 < n then .bad 2 (l.take n) else if isWord (l.take n) then .ok 2 (l.take n) 0 else .ok 1 (l.take n) 0) q := by
  have he : (bx l).extract 0 ((n : Int)).toNat = bx (l.take n) := by rw [ext_bx]; simp
  have hw := isWord_f (l.take n)
  have hz : Ev (fun k => sortilegeref05_token.j1 k (bx l) (n : Int)) (if isWord (l.take n) then (if 24 < n then (2, bx (l.take n), 0, 0, 0, 2) else (2, bx (l.take n), 0, 0, 0, 0)) else (if 24 < n then (1, bx (l.take n), 0, 0, 0, 2) else (1, bx (l.take n), 0, 0, 0, 0))) := by
    refine ev1 hw fun k hk => ?_
    simp only [sortilegeref05_token.j1]
    rw [if_pos (by omega), if_pos (by rw [bx_size]; omega), he, hk]
    simp only [Option.bind_some]
    by_cases h1 : isWord (l.take n) = true
    · rw [if_pos h1, if_pos h1]
      by_cases h : 24 < n
      · rw [if_pos (by omega), if_pos h]
      · rw [if_neg (by omega), if_neg h]
    · rw [if_neg h1, if_neg h1]
      by_cases h : 24 < n
      · rw [if_pos (by omega), if_pos h]
      · rw [if_neg (by omega), if_neg h]
  refine ⟨_, hz, ?_⟩
  by_cases h : 24 < n
  · rw [if_pos h, if_pos h, if_pos h]
    by_cases h1 : isWord (l.take n) = true
    · rw [if_pos h1]; exact ⟨rfl, rfl, by decide⟩
    · rw [if_neg h1]; exact ⟨rfl, rfl, by decide⟩
  · rw [if_neg h, if_neg h, if_neg h]
    by_cases h1 : isWord (l.take n) = true
    · rw [if_pos h1, if_pos h1]; rfl
    · rw [if_neg h1, if_neg h1]; rfl

theorem val_mono (a b : List UInt8) : val a ≤ val (a ++ b) := by
  unfold val
  rw [List.foldl_append]
  exact foldl_ge _ _

theorem num_step (v c : Nat) (hv : (v : Int) ≤ 2147483647) (h1 : 48 ≤ c) (h2 : c ≤ 57) : wrap64 (wrap64 (10 * (v : Int)) + ((c : Int) - 48) % 256) = ((v * 10 + (c - 48) : Nat) : Int) := by
  unfold wrap64
  omega

theorem number_l0 (l : List UInt8) (hl : l.length ≤ 140737488351232) (hw : ∀ c ∈ l, dg c = true) : ∀ (d i : Nat), i ≤ l.length → l.length - i = d → val (l.take i) ≤ 2147483647 →
    Ev (fun k => sortilegeref05_number.l0 k (bx l) ((val (l.take i) : Nat) : Int) (i : Int)) (if 2147483647 < val l then (0, false) else ((val l : Nat), true)) := by
  intro d
  induction d with
  | zero =>
    intro i hi hd hv
    refine ev0 fun k => ?_
    have e : l.take i = l := List.take_of_length_le (by omega)
    rw [e] at hv ⊢
    simp only [sortilegeref05_number.l0]
    rw [if_neg (by rw [bx_size]; omega), if_neg (by omega)]
  | succ d ih =>
    intro i hi hd hv
    rcases drop_cases l i hi with ⟨e, _⟩ | ⟨hlt, c, t, hc, ht⟩
    · omega
    · have hb := bt_bx l i c t hc
      have hlc : l[i] = c := by
        rw [List.drop_eq_getElem_cons hlt] at hc
        injection hc
      have hsn : l.take (i + 1) = l.take i ++ [c] := by rw [List.take_succ_eq_append_getElem hlt, hlc]
      have hdg := hw c (by rw [← hlc]; exact List.getElem_mem hlt)
      have h48 : 48 ≤ c.toNat ∧ c.toNat ≤ 57 := by simpa [dg] using hdg
      have e1 : wrap64 (wrap64 (10 * ((val (l.take i) : Nat) : Int)) + ((c.toNat : Int) - 48) % 256) = ((val (l.take (i + 1)) : Nat) : Int) := by
        rw [hsn, val_snoc]
        exact num_step _ _ (by omega) h48.1 h48.2
      by_cases hbig : 2147483647 < val (l.take (i + 1))
      · refine ev0 fun k => ?_
        simp only [sortilegeref05_number.l0]
        rw [if_pos (by rw [bx_size]; omega), if_pos (by omega), hb, e1, if_pos (by omega), if_pos ?_]
        have := val_mono (l.take (i + 1)) (l.drop (i + 1))
        rw [List.take_append_drop] at this
        omega
      · refine ev1 (ih (i + 1) (by omega) (by omega) (by omega)) fun k hk => ?_
        simp only [sortilegeref05_number.l0]
        rw [if_pos (by rw [bx_size]; omega), if_pos (by omega), hb, e1, if_neg (by omega), w1 i (by omega)]
        exact hk

theorem rtok_l1 (l : List UInt8) (hl : l.length ≤ 140737488351232) : ∀ (d i : Nat), i ≤ l.length → l.length - i = d →
    ∀ r, Ev (fun k => sortilegeref05_token.j3 k (bx l) ((i + ((l.drop i).takeWhile dg).length : Nat) : Int)) r → Ev (fun k => sortilegeref05_token.l1 k (bx l) (i : Int)) r := by
  intro d
  induction d with
  | zero =>
    intro i hi hd r h
    rw [List.drop_eq_nil_of_le (by omega)] at h
    refine ev1 h fun k hk => ?_
    simp only [sortilegeref05_token.l1]
    rw [if_neg (by rw [bx_size]; omega)]
    exact hk
  | succ d ih =>
    intro i hi hd r h
    rcases drop_cases l i hi with ⟨e, _⟩ | ⟨hlt, c, t, hc, ht⟩
    · omega
    · have hb := bt_bx l i c t hc
      rw [hc] at h
      by_cases hn : dg c = true
      · rw [List.takeWhile_cons_of_pos hn] at h
        have h2 := ih (i + 1) (by omega) (by omega) r (by rw [ht]; simpa [Nat.add_assoc, Nat.add_comm 1] using h)
        refine ev1 h2 fun k hk => ?_
        simp only [sortilegeref05_token.l1]
        rw [if_pos (by rw [bx_size]; omega), if_pos (by omega), hb, rdigit_f, w1 i (by omega)]
        simp only [Option.bind_some]
        rw [if_pos hn]
        exact hk
      · rw [List.takeWhile_cons_of_neg hn] at h
        refine ev1 h fun k hk => ?_
        simp only [sortilegeref05_token.l1]
        have h3 : dg c = false := by simpa using hn
        rw [if_pos (by rw [bx_size]; omega), if_pos (by omega), hb, rdigit_f, h3]
        simp only [Option.bind_some]
        rw [if_neg (by decide)]
        exact hk

theorem rtok_j3 (l : List UInt8) (n : Nat) (hl : l.length ≤ 140737488351232) (hn : n ≤ l.length) (hw : ∀ c ∈ l.take n, dg c = true) :
    ∃ q, Ev (fun k => sortilegeref05_token.j3 k (bx l) (n : Int)) q ∧ Rout (if 2147483647 < val (l.take n) then .bad 2 (l.take n) else .ok 3 (l.take n) (val (l.take n))) q := by
  have he : (bx l).extract 0 ((n : Int)).toNat = bx (l.take n) := by rw [ext_bx]; simp
  have hv := number_l0 (l.take n) (by rw [List.length_take]; omega) hw _ 0 (by omega) rfl (by simp [val])
  have hf : Ev (fun k => sortilegeref05_number.f k (bx (l.take n))) (if 2147483647 < val (l.take n) then (0, false) else ((val (l.take n) : Nat), true)) := hv
  by_cases h : 2147483647 < val (l.take n)
  · rw [if_pos h] at hf ⊢
    refine ⟨(3, bx (l.take n), 0, 0, 0, 2), ?_, rfl, rfl, by decide⟩
    refine ev1 hf fun k hk => ?_
    simp only [sortilegeref05_token.j3]
    rw [if_pos (by omega), if_pos (by rw [bx_size]; omega), he, hk]
    simp only [Option.bind_some]
    rw [if_neg (by decide)]
  · rw [if_neg h] at hf ⊢
    refine ⟨(3, bx (l.take n), (val (l.take n) : Nat), 0, 0, 0), ?_, rfl⟩
    refine ev1 hf fun k hk => ?_
    simp only [sortilegeref05_token.j3]
    rw [if_pos (by omega), if_pos (by rw [bx_size]; omega), he, hk]
    simp only [Option.bind_some]
    rw [if_pos trivial]

theorem rsign_j0 (c : UInt8) (t : List UInt8) : Ev (fun k => sortilegeref05_sign.j0 k (bx (c :: t))) (bx (if hasB ones c then [c] else [])) := by
  refine ev0 fun k => ?_
  have hb : bt (bx (c :: t)) 0 = (c.toNat : Int) := bt_bx (c :: t) 0 c t rfl
  have hp : 0 < ((bx (c :: t)).size : Int) := by rw [bx_size, List.length_cons]; omega
  have he : (bx (c :: t)).extract 0 1 = bx [c] := by rw [ext_bx]; rfl
  simp only [sortilegeref05_sign.j0]
  rw [if_pos hp, hb, he]
  have h1 : (if (0 : Nat) ≤ 1 then if 1 ≤ ((bx (c :: t)).size : Int) then some (bx [c]) else none else none) = some (bx [c]) := by rw [if_pos (by decide), if_pos (by omega)]
  rw [h1]
  by_cases hc : hasB ones c = true
  · rw [if_pos hc]
    have hmem : c ∈ ones := hasB_iff.1 hc
    have h17 : c.toNat = 40 ∨ c.toNat = 41 ∨ c.toNat = 91 ∨ c.toNat = 93 ∨ c.toNat = 123 ∨ c.toNat = 125 ∨ c.toNat = 44 ∨ c.toNat = 59 ∨ c.toNat = 58 ∨ c.toNat = 124 ∨ c.toNat = 43 ∨ c.toNat = 45 ∨ c.toNat = 42 ∨ c.toNat = 47 ∨ c.toNat = 37 ∨ c.toNat = 61 ∨ c.toNat = 60 := by
      simp only [ones, List.mem_cons, List.not_mem_nil, or_false] at hmem
      rcases hmem with h | h | h | h | h | h | h | h | h | h | h | h | h | h | h | h | h <;> subst h <;> decide
    rcases h17 with h | h | h | h | h | h | h | h | h | h | h | h | h | h | h | h | h <;> rw [h] <;> rfl
  · rw [if_neg hc]
    have hn : ∀ m : UInt8, hasB ones m = true → ¬ ((c.toNat : Int) = (m.toNat : Int)) := by
      intro m hm e
      have : c = m := UInt8.toNat_inj.1 (by omega)
      exact hc (this ▸ hm)
    rw [if_neg (show ¬ ((c.toNat : Int) = 40) from fun e => hn 40 (by decide) e), if_neg (show ¬ ((c.toNat : Int) = 41) from fun e => hn 41 (by decide) e), if_neg (show ¬ ((c.toNat : Int) = 91) from fun e => hn 91 (by decide) e), if_neg (show ¬ ((c.toNat : Int) = 93) from fun e => hn 93 (by decide) e), if_neg (show ¬ ((c.toNat : Int) = 123) from fun e => hn 123 (by decide) e), if_neg (show ¬ ((c.toNat : Int) = 125) from fun e => hn 125 (by decide) e), if_neg (show ¬ ((c.toNat : Int) = 44) from fun e => hn 44 (by decide) e), if_neg (show ¬ ((c.toNat : Int) = 59) from fun e => hn 59 (by decide) e), if_neg (show ¬ ((c.toNat : Int) = 58) from fun e => hn 58 (by decide) e), if_neg (show ¬ ((c.toNat : Int) = 124) from fun e => hn 124 (by decide) e), if_neg (show ¬ ((c.toNat : Int) = 43) from fun e => hn 43 (by decide) e), if_neg (show ¬ ((c.toNat : Int) = 45) from fun e => hn 45 (by decide) e), if_neg (show ¬ ((c.toNat : Int) = 42) from fun e => hn 42 (by decide) e), if_neg (show ¬ ((c.toNat : Int) = 47) from fun e => hn 47 (by decide) e), if_neg (show ¬ ((c.toNat : Int) = 37) from fun e => hn 37 (by decide) e), if_neg (show ¬ ((c.toNat : Int) = 61) from fun e => hn 61 (by decide) e), if_neg (show ¬ ((c.toNat : Int) = 60) from fun e => hn 60 (by decide) e)]
    rfl

theorem rsign_f (c : UInt8) (t : List UInt8) : Ev (fun k => sortilegeref05_sign.f k (bx (c :: t))) (bx (sgn (c :: t))) := by
  have hj := rsign_j0 c t
  have hs : sgn (c :: t) = if has twos ((c :: t).take 2) then (c :: t).take 2 else if hasB ones c then [c] else [] := rfl
  rw [hs]
  cases t with
  | nil =>
    have h2 : ¬ (has twos ([c].take 2) = true) := by
      unfold twos
      rw [has_no _ (by simp), has_no _ (by simp), has_no _ (by simp), has_no _ (by simp), has_nil]
      decide
    rw [if_neg h2]
    refine ev1z hj fun k hk => ?_
    unfold sortilegeref05_sign.f
    rw [if_neg (by rw [bx_size]; simp)]
    exact hk
  | cons d t =>
    have he : (bx (c :: d :: t)).extract 0 2 = bx [c, d] := by rw [ext_bx]; rfl
    have ht : (c :: d :: t).take 2 = [c, d] := rfl
    have hsz : ((bx (c :: d :: t)).size : Int) ≥ 2 := by rw [bx_size]; simp; omega
    rw [ht]
    refine ev1z hj fun k hk => ?_
    unfold sortilegeref05_sign.f
    rw [if_pos hsz, if_pos (by decide), if_pos (by omega), he, bx_toList, hk]
    unfold twos
    by_cases h1 : [c, d] = ([61, 61] : List UInt8)
    · rw [if_pos h1, has_yes _ h1, if_pos rfl]
    · rw [if_neg h1, has_no _ h1]
      by_cases h2 : [c, d] = ([60, 61] : List UInt8)
      · rw [if_pos h2, has_no _ (by rw [h2]; decide), has_yes _ h2, if_pos rfl]
      · rw [if_neg h2]
        by_cases h3 : [c, d] = ([58, 58] : List UInt8)
        · rw [if_pos h3, has_no _ (by rw [h3]; decide), has_no _ (by rw [h3]; decide), has_yes _ h3, if_pos rfl]
        · rw [if_neg h3]
          by_cases h4 : [c, d] = ([61, 62] : List UInt8)
          · rw [if_pos h4, has_yes _ h4, if_pos rfl]
          · rw [if_neg h4, has_no _ h4, has_no _ h2, has_no _ h3, has_nil]
            rfl

theorem rtok_f (l : List UInt8) (hne : l ≠ []) (hl : l.length ≤ 140737488351232) : ∃ q, Ev (fun k => sortilegeref05_token.f k (bx l)) q ∧ Rout (tok l) q := by
  obtain ⟨c, t, rfl⟩ : ∃ c t, l = c :: t := by cases l with | nil => exact absurd rfl hne | cons c t => exact ⟨c, t, rfl⟩
  have hb : bt (bx (c :: t)) 0 = (c.toNat : Int) := bt_bx (c :: t) 0 c t rfl
  have hp : 0 < ((bx (c :: t)).size : Int) := by rw [bx_size, List.length_cons]; omega
  unfold tok
  show ∃ q, _ ∧ Rout (if sm c then _ else if dg c then _ else _) q
  by_cases h1 : sm c = true
  · rw [if_pos h1]
    have hn := takeWhile_len nm (c :: t)
    have hle : ((c :: t).takeWhile nm).length ≤ (c :: t).length := (List.takeWhile_sublist nm).length_le
    obtain ⟨q, hq, hr⟩ := rtok_j1 (c :: t) ((c :: t).takeWhile nm).length hle
    rw [hn] at hr
    refine ⟨q, ?_, hr⟩
    refine ev1z (rtok_l0 (c :: t) hl _ 0 (by omega) rfl q (by simpa using hq)) fun k hk => ?_
    unfold sortilegeref05_token.f
    rw [if_pos hp, hb, rsmall_f]
    simp only [Option.bind_some]
    rw [if_pos h1]
    exact hk
  · rw [if_neg h1]
    have h1' : sm c = false := by simpa using h1
    by_cases h2 : dg c = true
    · rw [if_pos h2]
      have hn := takeWhile_len dg (c :: t)
      have hle : ((c :: t).takeWhile dg).length ≤ (c :: t).length := (List.takeWhile_sublist dg).length_le
      obtain ⟨q, hq, hr⟩ := rtok_j3 (c :: t) ((c :: t).takeWhile dg).length hl hle (by rw [hn]; exact fun x hx => mem_takeWhile dg _ x hx)
      refine ⟨q, ?_, by rw [hn] at hr; exact hr⟩
      refine ev1z (rtok_l1 (c :: t) hl _ 0 (by omega) rfl q (by simpa using hq)) fun k hk => ?_
      unfold sortilegeref05_token.f
      rw [if_pos hp, hb, rsmall_f, rdigit_f]
      simp only [Option.bind_some]
      rw [if_neg h1, if_pos h2]
      exact hk
    · rw [if_neg h2]
      by_cases h3 : sgn (c :: t) = []
      · rw [if_pos h3]
        refine ⟨(0, bx [c], 0, 0, 0, 10), ?_, rfl, rfl, by decide⟩
        refine ev1z (rsign_f c t) fun k hk => ?_
        unfold sortilegeref05_token.f
        rw [if_pos hp, hb, rsmall_f, rdigit_f]
        simp only [Option.bind_some]
        rw [if_neg h1, if_neg h2, hk]
        simp only [Option.bind_some]
        rw [h3, bx_toList, if_pos rfl, if_pos (by decide), if_pos (by omega), ext_bx]
        rfl
      · rw [if_neg h3]
        refine ⟨(4, bx (sgn (c :: t)), 0, 0, 0, 0), ?_, rfl⟩
        refine ev1z (rsign_f c t) fun k hk => ?_
        unfold sortilegeref05_token.f
        rw [if_pos hp, hb, rsmall_f, rdigit_f]
        simp only [Option.bind_some]
        rw [if_neg h1, if_neg h2, hk]
        simp only [Option.bind_some]
        rw [bx_toList, if_neg h3]

/-! ### The whole text -/
def t35 (t : Tok) : S35 := ⟨t.kind, bx t.text, t.n, t.line, t.col⟩
def out35 (acc : List S35) : Except Flt (List Tok) → List S35 × Int × ByteArray × Int × Int
  | .ok l => (acc ++ l.map t35, 0, bx [], 0, 0)
  | .error f => ([], f.e, bx f.text, f.line, f.col)

theorem rtokens_l1 (l : List UInt8) (hl : l.length ≤ 140737488351232) (acc : List S35) (line begin : Int) : ∀ (d i : Nat), i ≤ l.length → l.length - i = d → ∀ r,
    Ev (fun k => sortilegeref05_Tokens.l0 k (bx l) acc line begin ((i + ((l.drop i).takeWhile nnl).length : Nat) : Int)) r → Ev (fun k => sortilegeref05_Tokens.l1 k (bx l) acc line begin (i : Int)) r := by
  intro d
  induction d with
  | zero =>
    intro i hi hd r h
    rw [List.drop_eq_nil_of_le (by omega)] at h
    refine ev1 h fun k hk => ?_
    simp only [sortilegeref05_Tokens.l1]
    rw [if_neg (by rw [bx_size]; omega)]
    exact hk
  | succ d ih =>
    intro i hi hd r h
    rcases drop_cases l i hi with ⟨e, _⟩ | ⟨hlt, c, t, hc, ht⟩
    · omega
    · have hb := bt_bx l i c t hc
      rw [hc] at h
      by_cases hn : nnl c = true
      · rw [List.takeWhile_cons_of_pos hn] at h
        have h2 := ih (i + 1) (by omega) (by omega) r (by rw [ht]; simpa [Nat.add_assoc, Nat.add_comm 1] using h)
        refine ev1 h2 fun k hk => ?_
        simp only [sortilegeref05_Tokens.l1]
        have h10 : ¬ ((c.toNat : Int) = 10) := by simp [nnl] at hn; omega
        rw [if_pos (by rw [bx_size]; omega), if_pos (by omega), hb, if_neg h10, w1 i (by omega)]
        exact hk
      · rw [List.takeWhile_cons_of_neg hn] at h
        refine ev1 h fun k hk => ?_
        simp only [sortilegeref05_Tokens.l1]
        have h10 : (c.toNat : Int) = 10 := by simp [nnl] at hn; omega
        rw [if_pos (by rw [bx_size]; omega), if_pos (by omega), hb, if_pos h10]
        exact hk

theorem rtokens_j1 (s : ByteArray) (acc : List S35) (line begin : Int) (i : Int) (c : UInt8) (b : Bool) (hb : b = (decide (c.toNat = 10) || ws c)) (r : List S35 × Int × ByteArray × Int × Int)
    (h : Ev (fun k => sortilegeref05_Tokens.j2 k s acc line begin i (c.toNat : Int) b) r) : Ev (fun k => sortilegeref05_Tokens.j1 k s acc line begin i (c.toNat : Int)) r := by
  refine ev1 h fun k hk => ?_
  simp only [sortilegeref05_Tokens.j1]
  by_cases c10 : c.toNat = 10
  · rw [if_pos (by omega)]
    have : b = true := by rw [hb, decide_eq_true c10]; rfl
    rw [this] at hk; exact hk
  · rw [if_neg (by omega)]
    rw [decide_eq_false c10, Bool.false_or] at hb
    by_cases c13 : c.toNat = 13
    · rw [if_pos (by omega)]
      have : b = true := by rw [hb]; simp [ws, c13]
      rw [this] at hk; exact hk
    · rw [if_neg (by omega)]
      by_cases c9 : c.toNat = 9
      · rw [if_pos (by omega)]
        have : b = true := by rw [hb]; simp [ws, c9]
        rw [this] at hk; exact hk
      · rw [if_neg (by omega)]
        have : ((c.toNat : Int) == 32) = b := by
          rw [hb]
          simp only [ws, decide_eq_false c13, decide_eq_false c9, Bool.or_false]
          by_cases c32 : c.toNat = 32
          · rw [decide_eq_true c32, c32]; rfl
          · rw [decide_eq_false c32]; simp; omega
        rw [this]; exact hk

theorem rtokens_l0 (l : List UInt8) (hl : l.length ≤ 20000) : ∀ (d i : Nat), i ≤ l.length → l.length - i = d → ∀ (acc : List S35) (line begin : Int), acc.length ≤ i → 1 ≤ line → line ≤ i + 1 → 0 ≤ begin → begin ≤ i →
    Ev (fun k => sortilegeref05_Tokens.l0 k (bx l) acc line begin (i : Int)) (out35 acc (scan (l.drop i) line (i - begin + 1))) := by
  intro d
  induction d using Nat.strongRecOn with
  | _ d ih =>
  intro i hi hd acc line begin ha hl1 hl2 hb1 hb2
  rcases drop_cases l i hi with ⟨e, he⟩ | ⟨hlt, c, t, hc, ht⟩
  · rw [he]
    refine ev0 fun k => ?_
    simp only [sortilegeref05_Tokens.l0]
    rw [if_neg (by rw [bx_size]; omega), if_pos (by omega), bx_size, wid (x := (l.length : Int) - begin) (by omega) (by omega), wid (x := (l.length : Int) - begin + 1) (by omega) (by omega), scan]
    subst e
    rfl
  · have hb := bt_bx l i c t hc
    have hsz : (i : Int) < ((bx l).size : Int) := by rw [bx_size]; omega
    rw [hc]
    have hgo : ∀ (line' begin' : Int) (b : Bool), b = (decide (c.toNat = 10) || ws c) → line' = (if c.toNat = 10 then line + 1 else line) → begin' = (if c.toNat = 10 then (i : Int) + 1 else begin) → ∀ r, Ev (fun k => sortilegeref05_Tokens.j2 k (bx l) acc line' begin' (i : Int) (c.toNat : Int) b) r → Ev (fun k => sortilegeref05_Tokens.l0 k (bx l) acc line begin (i : Int)) r := by
      intro line' begin' b e1 e2 e3 r hr
      refine ev1 (rtokens_j1 (bx l) acc line' begin' (i : Int) c b e1 r hr) fun k hk => ?_
      simp only [sortilegeref05_Tokens.l0]
      rw [if_pos hsz, if_pos (by omega), hb]
      by_cases c10 : c.toNat = 10
      · rw [if_pos c10] at e2 e3
        rw [if_pos (by omega), wid (x := (i : Int) + 1) (by omega) (by omega), wid (x := line + 1) (by omega) (by omega)]
        rw [e2, e3] at hk; exact hk
      · rw [if_neg c10] at e2 e3
        rw [if_neg (by omega)]
        rw [e2, e3] at hk; exact hk
    by_cases c10 : c.toNat = 10
    · have h2 := ih (l.length - (i + 1)) (by omega) (i + 1) (by omega) rfl acc (line + 1) ((i : Int) + 1) (by omega) (by omega) (by omega) (by omega) (by omega)
      rw [scan, if_pos c10]
      rw [ht, show (((i + 1 : Nat) : Int) - ((i : Int) + 1) + 1) = 1 by omega] at h2
      refine hgo (line + 1) ((i : Int) + 1) true (by rw [decide_eq_true c10]; rfl) (by rw [if_pos c10]) (by rw [if_pos c10]) _ ?_
      refine ev1 h2 fun k hk => ?_
      simp only [sortilegeref05_Tokens.j2]
      rw [if_pos trivial, w1 i (by omega)]
      exact hk
    · have hgo' := hgo line begin
      rw [if_neg c10, if_neg c10, decide_eq_false c10, Bool.false_or] at hgo'
      by_cases cw : ws c = true
      · have h2 := ih (l.length - (i + 1)) (by omega) (i + 1) (by omega) rfl acc line begin (by omega) (by omega) (by omega) (by omega) (by omega)
        rw [scan, if_neg c10, if_pos cw]
        rw [ht, show (((i + 1 : Nat) : Int) - begin + 1) = (i : Int) - begin + 1 + 1 by omega] at h2
        refine hgo' true cw.symm rfl rfl _ ?_
        refine ev1 h2 fun k hk => ?_
        simp only [sortilegeref05_Tokens.j2]
        rw [if_pos trivial, w1 i (by omega)]
        exact hk
      · -- what is no blank
        refine hgo' false (by simpa using cw) rfl rfl _ ?_
        by_cases c35 : c.toNat = 35
        · rw [scan, if_neg c10, if_neg cw, if_pos c35]
          have hnl : nnl c = true := by simp [nnl, c35]
          have hlen : (t.takeWhile nnl).length ≤ t.length := (List.takeWhile_sublist nnl).length_le
          have htl : t.length = l.length - (i + 1) := by rw [← ht, List.length_drop]
          have h2 := ih (l.length - (i + 1 + (t.takeWhile nnl).length)) (by omega) (i + 1 + (t.takeWhile nnl).length) (by omega) rfl acc line begin (by omega) (by omega) (by omega) (by omega) (by omega)
          rw [← List.drop_drop, ht, ← dropWhile_drop, show (((i + 1 + (t.takeWhile nnl).length : Nat) : Int) - begin + 1) = (i : Int) - begin + 1 + 1 + (t.takeWhile nnl).length by omega] at h2
          have h4 := rtokens_l1 l (by omega) acc line begin _ i hi rfl _ (by rw [hc, List.takeWhile_cons_of_pos hnl, List.length_cons, show i + ((t.takeWhile nnl).length + 1) = i + 1 + (t.takeWhile nnl).length by omega]; exact h2)
          refine ev1 h4 fun k hk => ?_
          simp only [sortilegeref05_Tokens.j2]
          rw [if_neg (by decide), if_pos (by omega)]
          exact hk
        · rw [scan, if_neg c10, if_neg cw, if_neg c35]
          have hext : (bx l).extract ((i : Int)).toNat (bx l).size = bx (c :: t) := by
            rw [ext_bx, bx_size, List.take_of_length_le (Nat.le_refl _), Int.toNat_natCast, hc]
          have hlen : (c :: t).length = l.length - i := by rw [← hc, List.length_drop]
          obtain ⟨q, hq, hr⟩ := rtok_f (c :: t) (by simp) (by omega)
          cases htk : tok (c :: t) with
          | bad e w =>
            rw [htk] at hr
            obtain ⟨r1, r2, r3⟩ := hr
            refine ev1 hq fun k hk => ?_
            simp only [sortilegeref05_Tokens.j2]
            rw [if_neg (by decide), if_neg (by omega), if_pos (by omega), if_pos (by omega), hext, hk]
            simp only [Option.bind_some]
            rw [if_neg (by rw [r2]; exact r3), r1, r2, wid (x := (i : Int) - begin) (by omega) (by omega), wid (x := (i : Int) - begin + 1) (by omega) (by omega)]
            rfl
          | ok kd w n =>
            rw [htk] at hr
            obtain ⟨hw, hwn⟩ := tok_take htk
            have hwl : 1 ≤ w.length := by cases w with | nil => exact absurd rfl hwn | cons _ _ => simp
            have hwl2 : w.length ≤ (c :: t).length := by have := congrArg List.length hw; rw [List.length_take] at this; omega
            have hq' : q = (kd, bx w, n, 0, 0, 0) := hr
            subst hq'
            have h2 := ih (l.length - (i + w.length)) (by omega) (i + w.length) (by omega) rfl (acc ++ [t35 ⟨kd, w, n, line, (i : Int) - begin + 1⟩]) line begin (by rw [List.length_append, List.length_singleton]; omega) (by omega) (by omega) (by omega) (by omega)
            rw [show i + w.length = i + 1 + (w.length - 1) by omega, ← List.drop_drop, ht, show (((i + 1 + (w.length - 1) : Nat) : Int) - begin + 1) = (i : Int) - begin + 1 + w.length by omega] at h2
            have hout : out35 (acc ++ [t35 ⟨kd, w, n, line, (i : Int) - begin + 1⟩]) (scan (t.drop (w.length - 1)) line ((i : Int) - begin + 1 + w.length)) = out35 acc (match scan (t.drop (w.length - 1)) line ((i : Int) - begin + 1 + w.length) with | .error f => .error f | .ok l => .ok (⟨kd, w, n, line, (i : Int) - begin + 1⟩ :: l)) := by
              cases scan (t.drop (w.length - 1)) line ((i : Int) - begin + 1 + w.length) with
              | error f => rfl
              | ok l2 => simp [out35]
            rw [hout] at h2
            refine ev2 hq h2 fun k hk hk2 => ?_
            simp only [sortilegeref05_Tokens.j2]
            rw [if_neg (by decide), if_neg (by omega), if_pos (by omega), if_pos (by omega), hext, hk]
            simp only [Option.bind_some]
            rw [if_pos trivial, if_pos (by omega), bx_size, wid (x := (i : Int) - begin) (by omega) (by omega), wid (x := (i : Int) - begin + 1) (by omega) (by omega), wid (x := (i : Int) + (w.length : Int)) (by omega) (by omega),
              show (i : Int) + (w.length : Int) = ((i + 1 + (w.length - 1) : Nat) : Int) by omega]
            exact hk2

theorem rtokens_f (l : List UInt8) : Ev (fun k => sortilegeref05_Tokens.f k (bx l)) (out35 [] (lex l)) := by
  unfold lex
  by_cases h : 20000 < l.length
  · rw [if_pos h]
    refine ⟨0, fun k _ => ?_⟩
    show sortilegeref05_Tokens.f k (bx l) = _
    unfold sortilegeref05_Tokens.f
    rw [if_pos (by rw [bx_size]; omega)]
    rfl
  · rw [if_neg h]
    refine ev1z (rtokens_l0 l (by omega) _ 0 (by omega) rfl [] 1 0 (by simp) (by omega) (by omega) (by omega) (by omega)) fun k hk => ?_
    unfold sortilegeref05_Tokens.f
    rw [if_neg (by rw [bx_size]; omega)]
    simpa using hk
end X
end Go.Proofs.Ytfcekcnghomiiaa
