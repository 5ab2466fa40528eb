/- The reference's lexer. The program's readers of fields, functions and programs. What the scanner's tokens are like; reading a whole text, with the panic taken up. How deep an expression, a type and a program go. The limits on types and programs. Expr and Program: what they hand back. What the answers tell of the readings. An expression is placed as itself. The reference's Expr: what it hands back; the law. -/
import Derived.Test.YtbmcafehpgimfaaXba
import Derived.Test.YtbmcafehpgimfaaPvT
import Derived.Test.YtbmcafehpgimfaaVk
import Derived.Test.YtbmcafehpgimfaaPvW
namespace Go.Proofs.Ytbmcafehpgimfaa.Ps
set_option linter.unusedVariables false
set_option linter.unusedSimpArgs false
set_option maxRecDepth 4000
open Go Go.RowKit Px Lx

theorem C_rsmall (c : UInt8) : Cal 83 [V.one (X.d (D.int IntKind.u8 (Int.ofNat c.toNat)))] [] (RV (V.one (bX (sm c)))) := by
  refine call83 _ (Ev.of fun m k n => ?_)
  rw [e83_eq]
  unfold sm
  have e1 : decide (Int.ofNat c.toNat ≥ 97) = decide (97 ≤ c.toNat) := decide_eq_decide.2 (by simp only [Int.ofNat_eq_natCast]; omega)
  have e2 : decide (Int.ofNat c.toNat ≤ 122) = decide (c.toNat ≤ 122) := decide_eq_decide.2 (by simp only [Int.ofNat_eq_natCast]; omega)
  rw [e1, e2]
  cases decide (97 ≤ c.toNat) <;> rfl
theorem C_rdigit (c : UInt8) : Cal 84 [V.one (X.d (D.int IntKind.u8 (Int.ofNat c.toNat)))] [] (RV (V.one (bX (dg c)))) := by
  refine call84 _ (Ev.of fun m k n => ?_)
  rw [e84_eq]
  unfold dg
  have e1 : decide (Int.ofNat c.toNat ≥ 48) = decide (48 ≤ c.toNat) := decide_eq_decide.2 (by simp only [Int.ofNat_eq_natCast]; omega)
  have e2 : decide (Int.ofNat c.toNat ≤ 57) = decide (c.toNat ≤ 57) := decide_eq_decide.2 (by simp only [Int.ofNat_eq_natCast]; omega)
  rw [e1, e2]
  cases decide (48 ≤ c.toNat) <;> rfl
theorem beqL_bx' (a b : List UInt8) : beqL (bx a).data.toList (bx b).data.toList = (a == b) := by
  rw [bx_data, bx_data, beqL_eq]
theorem C_rword (w : List UInt8) : Cal 85 [V.one (X.d (D.str (bx w)))] [] (RV (V.one (bX (isWord w)))) := by
  have hw : Cal 96 [] [] (RV (V.one (X.d (D.list 1 (strs wordList))))) := by
    refine call96 ?_
    simp only [e96_eq]
    exact Ev.ret _
  have key : ∀ (d i : Nat), i ≤ 21 → 21 - i = d → Ev (fun m k n => l85_0 m (Ak k) n (bx w) (strs wordList) (Int.ofNat i)) (RV (V.one (bX (has (wordList.drop i) w)))) := by
    intro d
    induction d with
    | zero =>
      intro i hi hd
      obtain rfl : i = 21 := by omega
      refine Ev.step ?_
      simp only [l85_0_eq]
      exact Ev.no rfl (Ev.of fun m k n => by rw [q85_2_eq]; rfl)
    | succ d ih =>
      intro i hi hd
      have hlt : i < wordList.length := by show i < 21; omega
      have hat : (strs wordList).getD i [] = [D.str (bx wordList[i])] := by
        unfold strs
        rw [rows_getD _ _ _ hlt, List.getD_eq_getElem?_getD, List.getElem?_eq_getElem hlt]
        rfl
      have hdr : wordList.drop i = wordList[i] :: wordList.drop (i + 1) := List.drop_eq_getElem_cons hlt
      refine Ev.step ?_
      simp only [l85_0_eq]
      refine Ev.yes (lt_yes i 21 (by omega)) ?_
      simp only [q85_0_eq, tn, hat]
      refine Ev.yes (in_range i _ (by rw [show (strs wordList).length = 21 from rfl]; omega)) (Ev.yes rfl ?_)
      show Ev (fun m k n => bif beqL (bx wordList[i]).data.toList (bx w).data.toList then _ else _) _
      rw [beqL_bx', hdr]
      by_cases h : wordList[i]'hlt = w
      · refine Ev.yes (by simpa using h) (Ev.of fun m k n => ?_)
        rw [has_yes _ h.symm]
      · refine Ev.no (by simpa using h) ?_
        rw [has_no _ (fun e => h e.symm)]
        simp only [q85_1_eq, wrap_up i (show i < 9223372036854775807 by omega)]
        exact ih (i + 1) (by omega) (by omega)
  refine call85 _ ?_
  simp only [e85_eq]
  exact v_oL1 hw (Ev.diag (key 21 0 (by omega) rfl))
theorem val_app (a b : List UInt8) : val a ≤ val (a ++ b) := by
  unfold val
  rw [List.foldl_append]
  generalize a.foldl (fun a c => a * 10 + (c.toNat - 48)) 0 = v
  induction b generalizing v with
  | nil => exact Nat.le_refl _
  | cons c b ih => exact Nat.le_trans (by show v ≤ v * 10 + (c.toNat - 48); omega) (ih _)
theorem val_take (l : List UInt8) (i : Nat) : val (l.take i) ≤ val l := by
  have := val_app (l.take i) (l.drop i)
  rwa [List.take_append_drop] at this
def numV (v : Nat) : V := if v ≤ 2147483647 then V.tup [V.one (iX (v : Int)), V.one (bX true)] else V.tup [V.one (iX 0), V.one (bX false)]
theorem C_rnumber (w : List UInt8) (hl : w.length ≤ 1000000) (hw : ∀ c ∈ w, dg c = true) : Cal 86 [V.one (X.d (D.str (bx w)))] [] (RV (numV (val w))) := by
  have key : ∀ (d i : Nat), i ≤ w.length → w.length - i = d → val (w.take i) ≤ 2147483647 → Ev (fun m k n => l86_0 m (Ak k) n (bx w) (val (w.take i) : Int) (Int.ofNat i)) (RV (numV (val w))) := by
    intro d
    induction d with
    | zero =>
      intro i hi hd hv
      obtain rfl : i = w.length := by omega
      rw [List.take_length] at hv ⊢
      refine Ev.step ?_
      simp only [l86_0_eq]
      refine Ev.no (lt_no _ _ (by rw [bx_size]; exact Nat.le_refl _)) (Ev.of fun m k n => ?_)
      rw [q86_2_eq]
      unfold numV
      rw [if_pos hv]
    | succ d ih =>
      intro i hi hd hv
      rcases drop_cases w i hi with ⟨e, _⟩ | ⟨hlt, c, t, hc, ht⟩
      · omega
      · have hb := get_bx w i c t hc
        have hlc : w[i] = c := by
          rw [List.drop_eq_getElem_cons hlt] at hc
          injection hc
        have hsn : w.take (i + 1) = w.take i ++ [c] := by rw [List.take_succ_eq_append_getElem hlt, hlc]
        have hd2 := hw c (hlc ▸ List.getElem_mem hlt)
        have h48 : 48 ≤ c.toNat ∧ c.toNat ≤ 57 := by simpa [dg] using hd2
        have hval : val (w.take (i + 1)) = val (w.take i) * 10 + (c.toNat - 48) := by rw [hsn, val_snoc]
        refine Ev.step ?_
        simp only [l86_0_eq]
        refine Ev.yes (lt_yes i _ (by rw [bx_size]; exact hlt)) ?_
        simp only [q86_0_eq, hb]
        have e1 : IntKind.wrap .i64 (IntKind.wrap .i64 (10 * (val (w.take i) : Int)) + IntKind.wrap .i64 (IntKind.wrap .u8 (Int.ofNat c.toNat - 48))) = (val (w.take (i + 1)) : Int) := by
          simp only [Int.ofNat_eq_natCast]
          rw [wrap_u8 _ (by omega) (by omega), wrap_in ((c.toNat : Int) - 48) (by omega) (by omega), wrap_in (10 * (val (w.take i) : Int)) (by omega) (by omega), wrap_in _ (by omega) (by omega), hval]
          omega
        rw [e1]
        refine Ev.yes (in_range i _ (by rw [bx_size]; exact hlt)) ?_
        by_cases hbig : 2147483647 < val (w.take (i + 1))
        · refine Ev.yes (decide_eq_true (by show (2147483647 : Int) < _; omega)) (Ev.of fun m k n => ?_)
          have := val_take w (i + 1)
          unfold numV
          rw [if_neg (by omega)]
        · refine Ev.no (decide_eq_false (by show ¬ (2147483647 : Int) < _; omega)) ?_
          simp only [q86_1_eq, wrap_up i (show i < 9223372036854775807 by omega)]
          exact ih (i + 1) (by omega) (by omega) (by omega)
  refine call86 _ ?_
  simp only [e86_eq]
  exact Ev.diag (key _ 0 (Nat.zero_le _) rfl (by simp [val]))
theorem beq_byte (c k : UInt8) : (c == k) = (Int.ofNat c.toNat == Int.ofNat k.toNat) := by
  rw [Bool.eq_iff_iff, beq_iff_eq, beq_iff_eq]
  constructor
  · intro h; rw [h]
  · intro h; exact UInt8.toNat_inj.1 (Int.ofNat.inj h)
theorem ones_eq (c : UInt8) : hasB ones c = ((Int.ofNat c.toNat == 40) || ((Int.ofNat c.toNat == 41) || ((Int.ofNat c.toNat == 91) || ((Int.ofNat c.toNat == 93) || ((Int.ofNat c.toNat == 123) || ((Int.ofNat c.toNat == 125) || ((Int.ofNat c.toNat == 44) || ((Int.ofNat c.toNat == 59) || ((Int.ofNat c.toNat == 58) || ((Int.ofNat c.toNat == 124) || ((Int.ofNat c.toNat == 43) || ((Int.ofNat c.toNat == 45) || ((Int.ofNat c.toNat == 42) || ((Int.ofNat c.toNat == 47) || ((Int.ofNat c.toNat == 37) || ((Int.ofNat c.toNat == 61) || (Int.ofNat c.toNat == 60))))))))))))))))) := by
  unfold hasB ones
  simp only [List.contains_cons, List.contains_nil, Bool.or_false, beq_byte]
  rfl
theorem C_rsign (l : List UInt8) (hne : l ≠ []) : Cal 87 [V.one (X.d (D.str (bx l)))] [] (RV (V.one (sX (sgn l)))) := by
  obtain ⟨c, t, rfl⟩ : ∃ c t, l = c :: t := by cases l with | nil => exact absurd rfl hne | cons c t => exact ⟨c, t, rfl⟩
  have hp : (true && decide ((0 : Int) < Int.ofNat (bx (c :: t)).size)) = true := by rw [Bool.true_and]; exact decide_eq_true (by rw [bx_size]; simp only [List.length_cons, Int.ofNat_eq_natCast]; omega)
  have hp1 : (true && decide ((1 : Int) ≤ Int.ofNat (bx (c :: t)).size) && true && true) = true := by rw [Bool.true_and, Bool.and_true, Bool.and_true]; exact decide_eq_true (by rw [bx_size]; simp only [List.length_cons, Int.ofNat_eq_natCast]; omega)
  have x1 : (bx (c :: t)).extract 0 1 = bx [c] := by rw [ext_bx]; rfl
  have x2 : (bx (c :: t)).extract 0 2 = bx ((c :: t).take 2) := by rw [ext_bx]; rfl
  have last : ∀ b : Bool, Ev (fun _ k n => q87_2 (Ak k) n (bx (c :: t)) b) (RV (V.one (sX (bif b then [c] else [])))) := fun b => by
    simp only [q87_2_eq, x1]
    cases b with
    | true => exact Ev.yes rfl (Ev.yes hp1 (Ev.ret _))
    | false => exact Ev.no rfl (Ev.of fun m k n => by rw [q87_3_eq]; rfl)
  have one : Ev (fun _ k n => q87_1 (Ak k) n (bx (c :: t))) (RV (V.one (sX (bif hasB ones c then [c] else [])))) := by
    simp only [q87_1_eq, get_bx0, ones_eq]
    refine Ev.yes hp ?_
    generalize (Int.ofNat c.toNat == 40) = b1
    generalize (Int.ofNat c.toNat == 41) = b2
    generalize (Int.ofNat c.toNat == 91) = b3
    generalize (Int.ofNat c.toNat == 93) = b4
    generalize (Int.ofNat c.toNat == 123) = b5
    generalize (Int.ofNat c.toNat == 125) = b6
    generalize (Int.ofNat c.toNat == 44) = b7
    generalize (Int.ofNat c.toNat == 59) = b8
    generalize (Int.ofNat c.toNat == 58) = b9
    generalize (Int.ofNat c.toNat == 124) = b10
    generalize (Int.ofNat c.toNat == 43) = b11
    generalize (Int.ofNat c.toNat == 45) = b12
    generalize (Int.ofNat c.toNat == 42) = b13
    generalize (Int.ofNat c.toNat == 47) = b14
    generalize (Int.ofNat c.toNat == 37) = b15
    generalize (Int.ofNat c.toNat == 61) = b16
    generalize (Int.ofNat c.toNat == 60) = b17
    cases b1
    rotate_left
    · exact last true
    cases b2
    rotate_left
    · exact last true
    cases b3
    rotate_left
    · exact last true
    cases b4
    rotate_left
    · exact last true
    cases b5
    rotate_left
    · exact last true
    cases b6
    rotate_left
    · exact last true
    cases b7
    rotate_left
    · exact last true
    cases b8
    rotate_left
    · exact last true
    cases b9
    rotate_left
    · exact last true
    cases b10
    rotate_left
    · exact last true
    cases b11
    rotate_left
    · exact last true
    cases b12
    rotate_left
    · exact last true
    cases b13
    rotate_left
    · exact last true
    cases b14
    rotate_left
    · exact last true
    cases b15
    rotate_left
    · exact last true
    cases b16
    rotate_left
    · exact last true
    exact last b17
  have hs : sgn (c :: t) = bif has twos ((c :: t).take 2) then (c :: t).take 2 else bif hasB ones c then [c] else [] := by
    unfold sgn
    cases has twos ((c :: t).take 2) with
    | true => rfl
    | false => cases h : hasB ones c with
      | true => show (if false = true then _ else if hasB ones c = true then _ else _) = _; rw [h]; rfl
      | false => show (if false = true then _ else if hasB ones c = true then _ else _) = _; rw [h]; rfl
  rw [hs]
  have ht : has twos ((c :: t).take 2) = (((c :: t).take 2 == [61, 61]) || (((c :: t).take 2 == [61, 62]) || (((c :: t).take 2 == [60, 61]) || ((c :: t).take 2 == [58, 58])))) := by
    unfold has twos
    simp only [List.contains_cons, List.contains_nil, Bool.or_false]
  refine call87 _ ?_
  simp only [e87_eq]
  by_cases h2 : 2 ≤ (c :: t).length
  · have hp2 : (true && decide ((2 : Int) ≤ Int.ofNat (bx (c :: t)).size) && true && true) = true := by rw [Bool.true_and, Bool.and_true, Bool.and_true]; exact decide_eq_true (by rw [bx_size]; simp only [Int.ofNat_eq_natCast]; omega)
    have two : ∀ b : Bool, Ev (fun _ k n => q87_0 (Ak k) n (bx (c :: t)) b) (RV (V.one (sX (bif b then (c :: t).take 2 else bif hasB ones c then [c] else [])))) := fun b => by
      simp only [q87_0_eq, x2]
      cases b with
      | true => exact Ev.yes rfl (Ev.yes hp2 (Ev.ret _))
      | false => exact Ev.no rfl one
    refine Ev.yes (decide_eq_true (by show (2 : Int) ≤ Int.ofNat (bx (c :: t)).size; rw [bx_size]; simp only [Int.ofNat_eq_natCast]; omega)) (Ev.yes hp2 ?_)
    rw [ht, x2]
    have b1 : beqL (bx ((c :: t).take 2)).data.toList (ByteArray.mk #[61, 61]).data.toList = ((c :: t).take 2 == [61, 61]) := beqL_bx' _ [61, 61]
    have b2 : beqL (bx ((c :: t).take 2)).data.toList (ByteArray.mk #[60, 61]).data.toList = ((c :: t).take 2 == [60, 61]) := beqL_bx' _ [60, 61]
    have b3 : beqL (bx ((c :: t).take 2)).data.toList (ByteArray.mk #[58, 58]).data.toList = ((c :: t).take 2 == [58, 58]) := beqL_bx' _ [58, 58]
    have b4 : beqL (bx ((c :: t).take 2)).data.toList (ByteArray.mk #[61, 62]).data.toList = ((c :: t).take 2 == [61, 62]) := beqL_bx' _ [61, 62]
    rw [b1, b2, b3, b4]
    generalize ((c :: t).take 2 == [61, 61]) = c1
    generalize ((c :: t).take 2 == [60, 61]) = c2
    generalize ((c :: t).take 2 == [58, 58]) = c3
    generalize ((c :: t).take 2 == [61, 62]) = c4
    cases c1
    rotate_left
    · exact two true
    cases c2
    rotate_left
    · rw [show (false || (c4 || (true || c3))) = true by cases c4 <;> rfl]; exact two true
    cases c3
    rotate_left
    · rw [show (false || (c4 || (false || true))) = true by cases c4 <;> rfl]; exact two true
    rw [show (false || (c4 || (false || false))) = c4 by cases c4 <;> rfl]
    exact two c4
  · have hlen : (c :: t).take 2 = [c] := by
      cases t with
      | nil => rfl
      | cons d t => simp at h2
    refine Ev.no (decide_eq_false (by show ¬ (2 : Int) ≤ Int.ofNat (bx (c :: t)).size; rw [bx_size]; simp only [Int.ofNat_eq_natCast]; omega)) ?_
    rw [hlen, show has twos [c] = false by simp [has, twos]]
    exact one
section
variable {x2 x3 x4 x5 x6 x7 : Int} {s3 s4 : ByteArray}
theorem LR_word (l : List UInt8) (hl : l.length ≤ 1000000) : ∀ (d i : Nat), i ≤ l.length → l.length - i = d → ∀ r, Ev (fun m k n => q58_1 (Ak k) n (bx l) (Int.ofNat (i + ((l.drop i).takeWhile nm).length)) x2 s3 x4 x5 x6) r →
    Ev (fun m k n => l58_0 m (Ak k) n (bx l) (Int.ofNat i) x2 s3 x4 x5 x6) r := by
  intro d
  induction d with
  | zero =>
    intro i hi hd r h
    rw [List.drop_eq_nil_of_le (by omega)] at h
    refine Ev.step ?_
    simp only [l58_0_eq]
    exact Ev.no (lt_no i _ (by rw [bx_size]; omega)) h
  | succ d ih =>
    intro i hi hd r h
    rcases drop_cases l i hi with ⟨e, _⟩ | ⟨hlt, c, t, hc, ht⟩
    · omega
    · have hb := get_bx l i c t hc
      rw [hc] at h
      refine Ev.step ?_
      simp only [l58_0_eq, hb]
      refine Ev.yes (lt_yes i _ (by rw [bx_size]; exact hlt)) (Ev.yes (in_range i _ (by rw [bx_size]; exact hlt)) ?_)
      refine v_oB (C_rsmall c) ?_
      by_cases hn : nm c = true
      · rw [List.takeWhile_cons_of_pos hn] at h
        have h2 := ih (i + 1) (by omega) (by omega) r (by rw [ht]; simpa [Nat.add_assoc, Nat.add_comm 1] using h)
        have go : Ev (fun m k n => q58_0 (Ak k) m n (bx l) (Int.ofNat i) x2 s3 x4 x5 x6) r := by
          simp only [q58_0_eq, wrap_up i (show i < 9223372036854775807 by omega)]
          exact h2
        cases h1 : sm c with
        | true => exact Ev.yes rfl go
        | false =>
          refine Ev.no rfl (Ev.yes (in_range i _ (by rw [bx_size]; exact hlt)) (v_oB (C_rdigit c) ?_))
          cases h3 : dg c with
          | true => exact Ev.yes rfl go
          | false =>
            refine Ev.no rfl (Ev.yes (in_range i _ (by rw [bx_size]; exact hlt)) (Ev.yes ?_ go))
            rw [beq_iff_eq]
            simp [nm, h1, h3] at hn
            rw [hn]; rfl
      · rw [List.takeWhile_cons_of_neg hn] at h
        have h1 : sm c = false := by
          cases e : sm c
          · rfl
          · exact absurd (sm_nm e) hn
        have h3 : dg c = false := by
          cases e : dg c
          · rfl
          · exact absurd (by simp [nm, e]) hn
        rw [h1]
        refine Ev.no rfl (Ev.yes (in_range i _ (by rw [bx_size]; exact hlt)) (v_oB (C_rdigit c) ?_))
        rw [h3]
        refine Ev.no rfl (Ev.yes (in_range i _ (by rw [bx_size]; exact hlt)) (Ev.no ?_ h))
        rw [beq_eq_false_iff_ne]
        intro e
        refine hn ?_
        have : c.toNat = 95 := by
          have e' : ((c.toNat : Nat) : Int) = 95 := e
          omega
        simp [nm, this]
theorem LR_digits (l : List UInt8) (hl : l.length ≤ 1000000) : ∀ (d i : Nat), i ≤ l.length → l.length - i = d → ∀ r, Ev (fun m k n => q58_6 (Ak k) n (bx l) (Int.ofNat (i + ((l.drop i).takeWhile dg).length)) x2 s3 x4 x5 x6) r →
    Ev (fun m k n => l58_1 m (Ak k) n (bx l) (Int.ofNat i) x2 s3 x4 x5 x6) r := by
  intro d
  induction d with
  | zero =>
    intro i hi hd r h
    rw [List.drop_eq_nil_of_le (by omega)] at h
    refine Ev.step ?_
    simp only [l58_1_eq]
    exact Ev.no (lt_no i _ (by rw [bx_size]; omega)) h
  | succ d ih =>
    intro i hi hd r h
    rcases drop_cases l i hi with ⟨e, _⟩ | ⟨hlt, c, t, hc, ht⟩
    · omega
    · have hb := get_bx l i c t hc
      rw [hc] at h
      refine Ev.step ?_
      simp only [l58_1_eq, hb]
      refine Ev.yes (lt_yes i _ (by rw [bx_size]; exact hlt)) (Ev.yes (in_range i _ (by rw [bx_size]; exact hlt)) ?_)
      refine v_oB (C_rdigit c) ?_
      by_cases hn : dg c = true
      · rw [List.takeWhile_cons_of_pos hn] at h
        refine Ev.yes hn ?_
        simp only [q58_5_eq, wrap_up i (show i < 9223372036854775807 by omega)]
        exact ih (i + 1) (by omega) (by omega) r (by rw [ht]; simpa [Nat.add_assoc, Nat.add_comm 1] using h)
      · rw [List.takeWhile_cons_of_neg hn] at h
        exact Ev.no (by simpa using hn) h
def OneR (f : FuncId) (args : List V) : Lx.R → Prop
  | .ok k w n => Cal f args [] (RV (V.tup [V.agg [iX k, sX w, iX n, iX 0, iX 0], V.one (iX 0)]))
  | .bad e w => ∃ k n, Cal f args [] (RV (V.tup [V.agg [iX k, sX w, iX n, iX 0, iX 0], V.one (iX e)]))
theorem C_rone (l : List UInt8) (hne : l ≠ []) (hl : l.length ≤ 1000000) : OneR 58 [V.one (X.d (D.str (bx l)))] (Lx.tok l) := by
  obtain ⟨c, t, rfl⟩ : ∃ c t, l = c :: t := by cases l with | nil => exact absurd rfl hne | cons c t => exact ⟨c, t, rfl⟩
  have hp : (true && decide ((0 : Int) < Int.ofNat (bx (c :: t)).size)) = true := by rw [Bool.true_and]; exact decide_eq_true (by rw [bx_size]; simp only [List.length_cons, Int.ofNat_eq_natCast]; omega)
  have hp1 : (true && decide ((1 : Int) ≤ Int.ofNat (bx (c :: t)).size) && true && true) = true := by rw [Bool.true_and, Bool.and_true, Bool.and_true]; exact decide_eq_true (by rw [bx_size]; simp only [List.length_cons, Int.ofNat_eq_natCast]; omega)
  have go : ∀ {o : Out}, Ev (fun _ k n => e58 (Ak k) n (bx (c :: t))) o → Cal 58 [V.one (X.d (D.str (bx (c :: t))))] [] o := fun h => call58 _ h
  unfold Lx.tok
  show OneR _ _ (if sm c then _ else if dg c then _ else _)
  by_cases h1 : sm c = true
  · rw [if_pos h1]
    have hn := takeWhile_len nm (c :: t)
    have hle : ((c :: t).takeWhile nm).length ≤ (c :: t).length := (List.takeWhile_sublist nm).length_le
    generalize hw : (c :: t).takeWhile nm = w at hn hle
    have he : (bx (c :: t)).extract 0 (Int.toNat (Int.ofNat w.length)) = bx w := by rw [ext_bx]; show bx (((c :: t).take w.length).drop 0) = _; rw [hn]; rfl
    have key : ∀ {o : Out}, (∀ (x2 : Int) (s3 : ByteArray) (x4 x5 x6 : Int), Ev (fun _ k n => q58_2 (Ak k) n (Int.ofNat w.length) x2 s3 x4 x5 x6 (if isWord w then 2 else 1) (bx w) 0 0 0) o) → Cal 58 [V.one (X.d (D.str (bx (c :: t))))] [] o := fun {o} h => go (by
      simp only [e58_eq, get_bx0]
      refine Ev.yes hp (v_oB (C_rsmall c) (Ev.yes h1 (Ev.diag (LR_word (c :: t) hl _ 0 (by omega) rfl _ ?_))))
      rw [List.drop_zero, Nat.zero_add, hw]
      simp only [q58_1_eq, he]
      refine Ev.yes (cut_ok _ _ hle) (v_oB (C_rword w) ?_)
      cases hi : isWord w with
      | true => have := h 0 (ByteArray.mk #[]) 0 0 0; rw [hi] at this; exact Ev.yes rfl this
      | false => have := h 0 (ByteArray.mk #[]) 0 0 0; rw [hi] at this; exact Ev.no rfl this)
    by_cases h24 : 24 < w.length
    · rw [if_pos h24]
      refine ⟨if isWord w = true then 2 else 1, 0, key fun x2 s3 x4 x5 x6 => ?_⟩
      simp only [q58_2_eq]
      exact Ev.yes (decide_eq_true (by show (24 : Int) < Int.ofNat w.length; simp only [Int.ofNat_eq_natCast]; omega)) (Ev.ret _)
    · rw [if_neg h24]
      have fin : ∀ (x2 : Int) (s3 : ByteArray) (x4 x5 x6 κ : Int), Ev (fun _ k n => q58_2 (Ak k) n (Int.ofNat w.length) x2 s3 x4 x5 x6 κ (bx w) 0 0 0) (RV (V.tup [V.agg [iX κ, sX w, iX 0, iX 0, iX 0], V.one (iX 0)])) := fun x2 s3 x4 x5 x6 κ => by
        simp only [q58_2_eq]
        refine Ev.no (decide_eq_false (by show ¬ (24 : Int) < Int.ofNat w.length; simp only [Int.ofNat_eq_natCast]; omega)) ?_
        exact Ev.of fun m k n => by rw [q58_3_eq]
      by_cases hi : isWord w = true
      · rw [if_pos hi]
        refine key fun x2 s3 x4 x5 x6 => ?_
        rw [if_pos hi]
        exact fin _ _ _ _ _ _
      · rw [if_neg hi]
        refine key fun x2 s3 x4 x5 x6 => ?_
        rw [if_neg hi]
        exact fin _ _ _ _ _ _
  · rw [if_neg h1]
    have h1' : sm c = false := by simpa using h1
    by_cases h2 : dg c = true
    · rw [if_pos h2]
      have hn := takeWhile_len dg (c :: t)
      have hle : ((c :: t).takeWhile dg).length ≤ (c :: t).length := (List.takeWhile_sublist dg).length_le
      have hall : ∀ x ∈ (c :: t).takeWhile dg, dg x = true := fun x hx => mem_takeWhile dg _ x hx
      generalize hw : (c :: t).takeWhile dg = w at hn hle hall
      have he : (bx (c :: t)).extract 0 (Int.toNat (Int.ofNat w.length)) = bx w := by rw [ext_bx]; show bx (((c :: t).take w.length).drop 0) = _; rw [hn]; rfl
      have hnum := C_rnumber w (by omega) hall
      have key : ∀ {o : Out}, (∀ (x2 : Int) (s3 : ByteArray) (x4 x5 x6 : Int), Ev (fun _ k n => q58_6 (Ak k) n (bx (c :: t)) (Int.ofNat w.length) x2 s3 x4 x5 x6) o) → Cal 58 [V.one (X.d (D.str (bx (c :: t))))] [] o := fun {o} h => go (by
        simp only [e58_eq, get_bx0]
        refine Ev.yes hp (v_oB (C_rsmall c) (Ev.no h1' ?_))
        simp only [q58_4_eq, get_bx0]
        refine Ev.yes hp (v_oB (C_rdigit c) (Ev.yes h2 (Ev.diag (LR_digits (c :: t) hl _ 0 (by omega) rfl _ ?_))))
        rw [List.drop_zero, Nat.zero_add, hw]
        exact h _ _ _ _ _)
      unfold numV at hnum
      by_cases hb : 2147483647 < val w
      · rw [if_pos hb]
        rw [if_neg (by omega)] at hnum
        refine ⟨3, 0, key fun x2 s3 x4 x5 x6 => ?_⟩
        simp only [q58_6_eq, he]
        exact Ev.yes (cut_ok _ _ hle) (v_t2oIoB hnum (Ev.yes rfl (Ev.ret _)))
      · rw [if_neg hb]
        rw [if_pos (by omega)] at hnum
        refine key fun x2 s3 x4 x5 x6 => ?_
        simp only [q58_6_eq, he]
        refine Ev.yes (cut_ok _ _ hle) (v_t2oIoB hnum (Ev.no rfl ?_))
        simp only [q58_7_eq]
        exact Ev.ret _
    · rw [if_neg h2]
      have h2' : dg c = false := by simpa using h2
      have key : ∀ {o : Out}, (∀ (x2 : Int) (s3 : ByteArray) (x4 x5 x6 : Int), Ev (fun _ k n => q58_8 (Ak k) n (bx (c :: t)) x2 s3 x4 x5 x6) o) → Cal 58 [V.one (X.d (D.str (bx (c :: t))))] [] o := fun {o} h => go (by
        simp only [e58_eq, get_bx0]
        refine Ev.yes hp (v_oB (C_rsmall c) (Ev.no h1' ?_))
        simp only [q58_4_eq, get_bx0]
        exact Ev.yes hp (v_oB (C_rdigit c) (Ev.no h2' (h _ _ _ _ _))))
      by_cases h3 : sgn (c :: t) = []
      · rw [if_pos h3]
        refine ⟨0, 0, key fun x2 s3 x4 x5 x6 => ?_⟩
        simp only [q58_8_eq]
        refine v_oS (C_rsign (c :: t) (by simp)) ?_
        rw [h3]
        refine Ev.no rfl ?_
        simp only [q58_9_eq]
        refine Ev.yes hp1 (Ev.of fun m k n => ?_)
        rw [ext_bx]
        rfl
      · rw [if_neg h3]
        refine key fun x2 s3 x4 x5 x6 => ?_
        simp only [q58_8_eq]
        refine v_oS (C_rsign (c :: t) (by simp)) (Ev.yes ?_ (Ev.ret _))
        rw [show beqL (bx (sgn (c :: t))).data.toList (ByteArray.mk #[]).data.toList = (sgn (c :: t) == []) from beqL_bx' _ []]
        simpa using h3
end
theorem LR_comment_v1 (l : List UInt8) (hl : l.length ≤ 1000000) (acc : List Tok) (x1 x2 x4 : Int) (s5 : ByteArray) (x6 x7 : Int) (Γ : Bool → SemL) (m0 n0 : Nat) (o : Option Out) : ∀ (d i : Nat), i ≤ l.length → l.length - i = d →
    l26_0_v1 m0 Γ n0 (bx l) (toks acc) x1 x2 (Int.ofNat (i + ((l.drop i).takeWhile nnl).length)) x4 s5 x6 x7 = o → ∀ m, d < m → l26_1_v1 m Γ m0 n0 (bx l) (toks acc) x1 x2 (Int.ofNat i) x4 s5 x6 x7 = o := by
  intro d
  induction d with
  | zero =>
    intro i hi hd h m hm
    rw [List.drop_eq_nil_of_le (by omega)] at h
    obtain ⟨m, rfl⟩ : ∃ m', m = m' + 1 := ⟨m - 1, by omega⟩
    rw [l26_1_v1_eq, lt_no i _ (by rw [bx_size]; omega), cond_false, q26_5_v1_eq]
    exact h
  | succ d ih =>
    intro i hi hd h m hm
    obtain ⟨m, rfl⟩ : ∃ m', m = m' + 1 := ⟨m - 1, by omega⟩
    rcases drop_cases l i hi with ⟨e, _⟩ | ⟨hlt, c, t, hc, ht⟩
    · omega
    · have hb := get_bx l i c t hc
      rw [hc] at h
      rw [l26_1_v1_eq, lt_yes i _ (by rw [bx_size]; exact hlt), cond_true, show decide ((0 : Int) ≤ Int.ofNat i) = true from decide_eq_true (Int.natCast_nonneg i), Bool.true_and, cond_true, hb]
      by_cases hn : c.toNat = 10
      · rw [List.takeWhile_cons_of_neg (by simp [nnl, hn])] at h
        rw [bne, show (Int.ofNat c.toNat == 10) = true from byte_yes (n := 10) hn, Bool.not_true, cond_false, q26_5_v1_eq]
        exact h
      · rw [List.takeWhile_cons_of_pos (by simp [nnl, hn])] at h
        rw [bne, show (Int.ofNat c.toNat == 10) = false from byte_no (n := 10) hn, Bool.not_false, cond_true, q26_4_v1_eq, wrap_up i (by omega)]
        exact ih (i + 1) (by omega) (by omega) (by rw [ht]; simpa [Nat.add_assoc, Nat.add_comm 1] using h) m (by omega)
theorem LR_scan_v1 (l : List UInt8) (hl : l.length ≤ 1000000) (x4 : Int) (s5 : ByteArray) (x6 x7 : Int) : ∀ (d i : Nat), l.length - i < d → i ≤ l.length → ∀ (acc : List Tok) (line : Nat) (b : Nat), b ≤ i → line ≤ i + 1 → acc.length ≤ i →
    Ev (fun m k n => l26_0_v1 m (Ak k) n (bx l) (toks acc) (Int.ofNat line) (Int.ofNat b) (Int.ofNat i) x4 s5 x6 x7) (RV (tokOut acc (scan (l.drop i) (Int.ofNat line) (Int.ofNat i - Int.ofNat b + 1)))) := by
  intro d
  induction d with
  | zero => intro i h; omega
  | succ d ih =>
    intro i hd hi acc line b hb hline ha
    refine Ev.step ?_
    simp only [l26_0_v1_eq]
    rcases drop_cases l i hi with ⟨e, hnil⟩ | ⟨hlt, c, t, hc, ht⟩
    · subst e
      rw [hnil, scan]
      refine Ev.no (lt_no _ _ (by rw [bx_size]; omega)) ?_
      simp only [q26_8_v1_eq, bx_size, col_wrap l.length b hb hl]
      refine Ev.yes (by rw [toks_len]; exact Nat.ble_eq_true_of_le (by show (acc.length + 1) * 49 ≤ _; omega)) (Ev.of fun m k n => ?_)
      show some _ = some (RV (V.tup [V.one (X.d (D.list 5 (toks (acc ++ [_])))), _]))
      rw [toks_app]
      rfl
    · have hget := get_bx l i c t hc
      refine Ev.yes (lt_yes i _ (by rw [bx_size]; exact hlt)) ?_
      simp only [q26_1_v1_eq, hget, wrap_up i (show i < 9223372036854775807 by omega), wrap_up line (show line < 9223372036854775807 by omega)]
      refine Ev.yes (in_range i _ (by rw [bx_size]; exact hlt)) ?_
      rw [hc, scan]
      have next : Ev (fun m k n => l26_0_v1 m (Ak k) n (bx l) (toks acc) (Int.ofNat line) (Int.ofNat b) (Int.ofNat (i + 1)) x4 s5 x6 x7) (RV (tokOut acc (scan t (Int.ofNat line) (Int.ofNat i - Int.ofNat b + 1 + 1)))) := by
        have := ih (i + 1) (by omega) (by omega) acc line b (by omega) (by omega) (by omega)
        rw [ht] at this
        have e1 : Int.ofNat (i + 1) - Int.ofNat b + 1 = Int.ofNat i - Int.ofNat b + 1 + 1 := by simp only [Int.ofNat_eq_natCast]; omega
        rw [e1] at this
        exact this
      by_cases h10 : c.toNat = 10
      · rw [if_pos h10]
        refine Ev.yes (byte_yes (n := 10) h10) ?_
        simp only [q26_2_v1_eq, wrap_up i (show i < 9223372036854775807 by omega)]
        refine Ev.yes (byte_yes (n := 10) h10) ?_
        have := ih (i + 1) (by omega) (by omega) acc (line + 1) (i + 1) (by omega) (by omega) (by omega)
        rw [ht, Int.sub_self] at this
        exact this
      rw [if_neg h10]
      refine Ev.no (byte_no (n := 10) h10) ?_
      simp only [q26_2_v1_eq, wrap_up i (show i < 9223372036854775807 by omega)]
      refine Ev.no (byte_no (n := 10) h10) ?_
      by_cases h13 : c.toNat = 13
      · rw [if_pos (by simp [ws, h13])]
        exact Ev.yes (byte_yes (n := 13) h13) next
      refine Ev.no (byte_no (n := 13) h13) ?_
      by_cases h9 : c.toNat = 9
      · rw [if_pos (by simp [ws, h9])]
        exact Ev.yes (byte_yes (n := 9) h9) next
      refine Ev.no (byte_no (n := 9) h9) ?_
      by_cases h32 : c.toNat = 32
      · rw [if_pos (by simp [ws, h32])]
        exact Ev.yes (byte_yes (n := 32) h32) next
      refine Ev.no (byte_no (n := 32) h32) ?_
      simp only [q26_3_v1_eq]
      rw [if_neg (by simp [ws, h32, h9, h13])]
      by_cases h35 : c.toNat = 35
      · rw [if_pos h35]
        refine Ev.yes (byte_yes (n := 35) h35) ?_
        have hle : (t.takeWhile nnl).length ≤ t.length := (List.takeWhile_sublist nnl).length_le
        have htl : t.length = l.length - i - 1 := by
          have := congrArg List.length hc
          rw [List.length_drop, List.length_cons] at this
          omega
        have hdw : l.drop (i + 1 + (t.takeWhile nnl).length) = t.dropWhile nnl := by
          rw [← List.drop_drop, ht]
          have := List.takeWhile_append_dropWhile (p := nnl) (l := t)
          conv => lhs; rw [← this]
          rw [List.drop_append_of_le_length (by rw [this]; exact Nat.le_refl _) |>.trans (by rw [this])] <;> simp
        have := ih (i + 1 + (t.takeWhile nnl).length) (by omega) (by omega) acc line b (by omega) (by omega) (by omega)
        rw [hdw] at this
        have e1 : Int.ofNat (i + 1 + (t.takeWhile nnl).length) - Int.ofNat b + 1 = Int.ofNat i - Int.ofNat b + 1 + 1 + ((t.takeWhile nnl).length : Int) := by simp only [Int.ofNat_eq_natCast]; omega
        rw [e1] at this
        obtain ⟨K, hK⟩ := this
        refine ⟨K + l.length + 1, fun m k n h1 h2 h3 => ?_⟩
        refine LR_comment_v1 l hl acc _ _ _ _ _ _ (Ak k) m n _ (l.length - i) i hi rfl ?_ m (by omega)
        rw [hc, List.takeWhile_cons_of_pos (by simp [nnl, h35]), List.length_cons]
        rw [show i + ((t.takeWhile nnl).length + 1) = i + 1 + (t.takeWhile nnl).length by omega]
        exact hK m k n (by omega) (by omega) (by omega)
      rw [if_neg h35]
      refine Ev.no (byte_no (n := 35) h35) ?_
      have hext : (bx l).extract (Int.toNat (Int.ofNat i)) (Int.toNat (Int.ofNat l.length)) = bx (c :: t) := by
        rw [ext_bx, ← hc]
        show bx ((l.take l.length).drop i) = _
        rw [List.take_length]
      simp only [q26_6_v1_eq, bx_size, hext]
      refine Ev.yes (by simp only [Int.ofNat_eq_natCast, Bool.and_eq_true, decide_eq_true_eq]; omega) ?_
      have hone := C_rone (c :: t) (by simp) (by rw [← hc, List.length_drop]; omega)
      cases htok : Lx.tok (c :: t) with
      | bad e w =>
        rw [htok] at hone
        obtain ⟨k0, n0, hone⟩ := hone
        refine v_t2a5ISIIIoI hone (Ev.yes (by simpa using tok_bad htok) (Ev.of fun m k n => ?_))
        rw [col_wrap i b hb (by omega)]
        rfl
      | ok κ w n =>
        rw [htok] at hone
        refine v_t2a5ISIIIoI hone (Ev.no rfl ?_)
        have hw := tok_take htok
        have hwl : 1 ≤ w.length := by
          cases w with
          | nil => exact absurd rfl hw.2
          | cons => simp
        have hwle : w.length ≤ (c :: t).length := by
          have := congrArg List.length hw.1
          rw [List.length_take] at this
          omega
        have htl : (c :: t).length = l.length - i := by rw [← hc, List.length_drop]
        have hdr : l.drop (i + w.length) = t.drop (w.length - 1) := by
          rw [← List.drop_drop, hc]
          cases w with
          | nil => exact absurd rfl hw.2
          | cons a w' => rfl
        simp only [q26_7_v1_eq, bx_size, add_wrap i w.length (by omega), col_wrap i b hb (by omega : i ≤ 1000000)]
        refine Eq.subst (motive := fun v => Ev _ (RV v)) (tokOut_cons acc ⟨κ, w, n, Int.ofNat line, Int.ofNat i - Int.ofNat b + 1⟩ (scan (t.drop (w.length - 1)) (Int.ofNat line) (Int.ofNat i - Int.ofNat b + 1 + (w.length : Int)))).symm ?_
        have e1 : Int.ofNat (i + w.length) - Int.ofNat b + 1 = Int.ofNat i - Int.ofNat b + 1 + (w.length : Int) := by simp only [Int.ofNat_eq_natCast]; omega
        have := ih (i + w.length) (by omega) (by omega) (acc ++ [⟨κ, w, n, Int.ofNat line, Int.ofNat i - Int.ofNat b + 1⟩]) line b (by omega) (by omega) (by rw [List.length_append, List.length_singleton]; omega)
        rw [hdr, e1, toks_app] at this
        exact Ev.yes (by rw [toks_len]; exact Nat.ble_eq_true_of_le (by show (acc.length + 1) * 49 ≤ _; omega)) this
theorem LR_comment (l : List UInt8) (hl : l.length ≤ 1000000) (x1 x2 x4 : Int) (s5 : ByteArray) (x6 x7 : Int) (Γ : Bool → SemL) (m0 n0 : Nat) (o : Option Out) : ∀ (d i : Nat), i ≤ l.length → l.length - i = d →
    l26_0 m0 Γ n0 (bx l) x1 x2 (Int.ofNat (i + ((l.drop i).takeWhile nnl).length)) x4 s5 x6 x7 = o → ∀ m, d < m → l26_1 m Γ m0 n0 (bx l) x1 x2 (Int.ofNat i) x4 s5 x6 x7 = o := by
  intro d
  induction d with
  | zero =>
    intro i hi hd h m hm
    rw [List.drop_eq_nil_of_le (by omega)] at h
    obtain ⟨m, rfl⟩ : ∃ m', m = m' + 1 := ⟨m - 1, by omega⟩
    rw [l26_1_eq, lt_no i _ (by rw [bx_size]; omega), cond_false, q26_5_eq]
    exact h
  | succ d ih =>
    intro i hi hd h m hm
    obtain ⟨m, rfl⟩ : ∃ m', m = m' + 1 := ⟨m - 1, by omega⟩
    rcases drop_cases l i hi with ⟨e, _⟩ | ⟨hlt, c, t, hc, ht⟩
    · omega
    · have hb := get_bx l i c t hc
      rw [hc] at h
      rw [l26_1_eq, lt_yes i _ (by rw [bx_size]; exact hlt), cond_true, show decide ((0 : Int) ≤ Int.ofNat i) = true from decide_eq_true (Int.natCast_nonneg i), Bool.true_and, cond_true, hb]
      by_cases hn : c.toNat = 10
      · rw [List.takeWhile_cons_of_neg (by simp [nnl, hn])] at h
        rw [bne, show (Int.ofNat c.toNat == 10) = true from byte_yes (n := 10) hn, Bool.not_true, cond_false, q26_5_eq]
        exact h
      · rw [List.takeWhile_cons_of_pos (by simp [nnl, hn])] at h
        rw [bne, show (Int.ofNat c.toNat == 10) = false from byte_no (n := 10) hn, Bool.not_false, cond_true, q26_4_eq, wrap_up i (by omega)]
        exact ih (i + 1) (by omega) (by omega) (by rw [ht]; simpa [Nat.add_assoc, Nat.add_comm 1] using h) m (by omega)
theorem LR_scan (l : List UInt8) (hl : l.length ≤ 1000000) (x4 : Int) (s5 : ByteArray) (x6 x7 : Int) : ∀ (d i : Nat), l.length - i < d → i ≤ l.length → ∀ (line : Nat) (b : Nat), b ≤ i → line ≤ i + 1 → 
    Ev (fun m k n => l26_0 m (Ak k) n (bx l) (Int.ofNat line) (Int.ofNat b) (Int.ofNat i) x4 s5 x6 x7) (RV (tokOut [] (scan (l.drop i) (Int.ofNat line) (Int.ofNat i - Int.ofNat b + 1)))) := by
  intro d
  induction d with
  | zero => intro i h; omega
  | succ d ih =>
    intro i hd hi line b hb hline
    refine Ev.step ?_
    simp only [l26_0_eq]
    rcases drop_cases l i hi with ⟨e, hnil⟩ | ⟨hlt, c, t, hc, ht⟩
    · subst e
      rw [hnil, scan]
      refine Ev.no (lt_no _ _ (by rw [bx_size]; omega)) ?_
      simp only [q26_8_eq, bx_size, col_wrap l.length b hb hl]
      exact Ev.of fun m k n => rfl
    · have hget := get_bx l i c t hc
      refine Ev.yes (lt_yes i _ (by rw [bx_size]; exact hlt)) ?_
      simp only [q26_1_eq, hget, wrap_up i (show i < 9223372036854775807 by omega), wrap_up line (show line < 9223372036854775807 by omega)]
      refine Ev.yes (in_range i _ (by rw [bx_size]; exact hlt)) ?_
      rw [hc, scan]
      have next : Ev (fun m k n => l26_0 m (Ak k) n (bx l) (Int.ofNat line) (Int.ofNat b) (Int.ofNat (i + 1)) x4 s5 x6 x7) (RV (tokOut [] (scan t (Int.ofNat line) (Int.ofNat i - Int.ofNat b + 1 + 1)))) := by
        have := ih (i + 1) (by omega) (by omega) line b (by omega) (by omega)
        rw [ht] at this
        have e1 : Int.ofNat (i + 1) - Int.ofNat b + 1 = Int.ofNat i - Int.ofNat b + 1 + 1 := by simp only [Int.ofNat_eq_natCast]; omega
        rw [e1] at this
        exact this
      by_cases h10 : c.toNat = 10
      · rw [if_pos h10]
        refine Ev.yes (byte_yes (n := 10) h10) ?_
        simp only [q26_2_eq, wrap_up i (show i < 9223372036854775807 by omega)]
        refine Ev.yes (byte_yes (n := 10) h10) ?_
        have := ih (i + 1) (by omega) (by omega) (line + 1) (i + 1) (by omega) (by omega)
        rw [ht, Int.sub_self] at this
        exact this
      rw [if_neg h10]
      refine Ev.no (byte_no (n := 10) h10) ?_
      simp only [q26_2_eq, wrap_up i (show i < 9223372036854775807 by omega)]
      refine Ev.no (byte_no (n := 10) h10) ?_
      by_cases h13 : c.toNat = 13
      · rw [if_pos (by simp [ws, h13])]
        exact Ev.yes (byte_yes (n := 13) h13) next
      refine Ev.no (byte_no (n := 13) h13) ?_
      by_cases h9 : c.toNat = 9
      · rw [if_pos (by simp [ws, h9])]
        exact Ev.yes (byte_yes (n := 9) h9) next
      refine Ev.no (byte_no (n := 9) h9) ?_
      by_cases h32 : c.toNat = 32
      · rw [if_pos (by simp [ws, h32])]
        exact Ev.yes (byte_yes (n := 32) h32) next
      refine Ev.no (byte_no (n := 32) h32) ?_
      simp only [q26_3_eq]
      rw [if_neg (by simp [ws, h32, h9, h13])]
      by_cases h35 : c.toNat = 35
      · rw [if_pos h35]
        refine Ev.yes (byte_yes (n := 35) h35) ?_
        have hle : (t.takeWhile nnl).length ≤ t.length := (List.takeWhile_sublist nnl).length_le
        have htl : t.length = l.length - i - 1 := by
          have := congrArg List.length hc
          rw [List.length_drop, List.length_cons] at this
          omega
        have hdw : l.drop (i + 1 + (t.takeWhile nnl).length) = t.dropWhile nnl := by
          rw [← List.drop_drop, ht]
          have := List.takeWhile_append_dropWhile (p := nnl) (l := t)
          conv => lhs; rw [← this]
          rw [List.drop_append_of_le_length (by rw [this]; exact Nat.le_refl _) |>.trans (by rw [this])] <;> simp
        have := ih (i + 1 + (t.takeWhile nnl).length) (by omega) (by omega) line b (by omega) (by omega)
        rw [hdw] at this
        have e1 : Int.ofNat (i + 1 + (t.takeWhile nnl).length) - Int.ofNat b + 1 = Int.ofNat i - Int.ofNat b + 1 + 1 + ((t.takeWhile nnl).length : Int) := by simp only [Int.ofNat_eq_natCast]; omega
        rw [e1] at this
        obtain ⟨K, hK⟩ := this
        refine ⟨K + l.length + 1, fun m k n h1 h2 h3 => ?_⟩
        refine LR_comment l hl _ _ _ _ _ _ (Ak k) m n _ (l.length - i) i hi rfl ?_ m (by omega)
        rw [hc, List.takeWhile_cons_of_pos (by simp [nnl, h35]), List.length_cons]
        rw [show i + ((t.takeWhile nnl).length + 1) = i + 1 + (t.takeWhile nnl).length by omega]
        exact hK m k n (by omega) (by omega) (by omega)
      rw [if_neg h35]
      refine Ev.no (byte_no (n := 35) h35) ?_
      have hext : (bx l).extract (Int.toNat (Int.ofNat i)) (Int.toNat (Int.ofNat l.length)) = bx (c :: t) := by
        rw [ext_bx, ← hc]
        show bx ((l.take l.length).drop i) = _
        rw [List.take_length]
      simp only [q26_6_eq, bx_size, hext]
      refine Ev.yes (by simp only [Int.ofNat_eq_natCast, Bool.and_eq_true, decide_eq_true_eq]; omega) ?_
      have hone := C_rone (c :: t) (by simp) (by rw [← hc, List.length_drop]; omega)
      cases htok : Lx.tok (c :: t) with
      | bad e w =>
        rw [htok] at hone
        obtain ⟨k0, n0, hone⟩ := hone
        refine v_t2a5ISIIIoI hone (Ev.yes (by simpa using tok_bad htok) (Ev.of fun m k n => ?_))
        rw [col_wrap i b hb (by omega)]
        rfl
      | ok κ w n =>
        rw [htok] at hone
        refine v_t2a5ISIIIoI hone (Ev.no rfl ?_)
        have hw := tok_take htok
        have hwl : 1 ≤ w.length := by
          cases w with
          | nil => exact absurd rfl hw.2
          | cons => simp
        have hwle : w.length ≤ (c :: t).length := by
          have := congrArg List.length hw.1
          rw [List.length_take] at this
          omega
        have htl : (c :: t).length = l.length - i := by rw [← hc, List.length_drop]
        have hdr : l.drop (i + w.length) = t.drop (w.length - 1) := by
          rw [← List.drop_drop, hc]
          cases w with
          | nil => exact absurd rfl hw.2
          | cons a w' => rfl
        simp only [q26_7_eq, bx_size, add_wrap i w.length (by omega), col_wrap i b hb (by omega : i ≤ 1000000)]
        refine Eq.subst (motive := fun v => Ev _ (RV v)) (tokOut_cons [] ⟨κ, w, n, Int.ofNat line, Int.ofNat i - Int.ofNat b + 1⟩ (scan (t.drop (w.length - 1)) (Int.ofNat line) (Int.ofNat i - Int.ofNat b + 1 + (w.length : Int)))).symm ?_
        have e1 : Int.ofNat (i + w.length) - Int.ofNat b + 1 = Int.ofNat i - Int.ofNat b + 1 + (w.length : Int) := by simp only [Int.ofNat_eq_natCast]; omega
        have := LR_scan_v1 l hl x4 s5 x6 x7 (l.length + 1) (i + w.length) (by omega) (by omega) [⟨κ, w, n, Int.ofNat line, Int.ofNat i - Int.ofNat b + 1⟩] line b (by omega) (by omega) (by simp only [List.length_singleton]; omega)
        rw [hdr, e1] at this
        exact this
theorem C_rtokens (l : List UInt8) : Cal 26 [V.one (X.d (D.str (bx l)))] [] (RV (if 20000 < l.length then V.tup [V.one (X.d (D.list 5 [])), V.agg [iX 2, sX [], iX 0, iX 0]] else tokOut [] (scan l 1 1))) := by
  refine call26 _ ?_
  simp only [e26_eq, bx_size]
  by_cases h : 20000 < l.length
  · rw [if_pos h]
    exact Ev.yes (decide_eq_true (by show (20000 : Int) < Int.ofNat l.length; simp only [Int.ofNat_eq_natCast]; omega)) (Ev.ret _)
  · rw [if_neg h]
    refine Ev.no (decide_eq_false (by show ¬ (20000 : Int) < Int.ofNat l.length; simp only [Int.ofNat_eq_natCast]; omega)) ?_
    simp only [q26_0_eq]
    have := fun (x4 : Int) (s5 : ByteArray) (x6 x7 : Int) => LR_scan l (by omega) x4 s5 x6 x7 (l.length + 1) 0 (by omega) (by omega) 1 0 (by omega) (by omega)
    exact Ev.diag (this _ _ _ _)
end Go.Proofs.Ytbmcafehpgimfaa.Ps
namespace Go.Proofs.Ytbmcafehpgimfaa.Ps
set_option linter.unusedVariables false
set_option linter.unusedSimpArgs false
open Go Go.RowKit Px
open Lx (Tok)
open Pm (want kind)

def fnV (f : Fnc) : V := V.agg [X.d (D.str (bx f.name)), X.d (D.list 5 (Fld.rows f.params)), X.d (D.int IntKind.i64 f.res.k), X.d (D.list 2 (T.rows f.res.l)), X.d (D.int IntKind.i64 f.body.k), X.d (D.int IntKind.i64 f.body.n), X.d (D.str (bx f.body.name)), X.d (D.list 1 (strs f.body.names)), X.d (D.list 1 (ints f.body.odds)), X.d (D.list 8 (E.rows f.body.kids)), X.d (D.int IntKind.i64 f.body.line), X.d (D.int IntKind.i64 f.body.col), X.d (D.int IntKind.i64 f.line), X.d (D.int IntKind.i64 f.col)]
def pX (p : Pg) : List X := [X.d (D.list 5 (Fld.rows p.inputs)), X.d (D.list 14 (Fnc.rows p.funs)), X.d (D.int IntKind.i64 p.query.k), X.d (D.int IntKind.i64 p.query.n), X.d (D.str (bx p.query.name)), X.d (D.list 1 (strs p.query.names)), X.d (D.list 1 (ints p.query.odds)), X.d (D.list 8 (E.rows p.query.kids)), X.d (D.int IntKind.i64 p.query.line), X.d (D.int IntKind.i64 p.query.col)]
def pV (p : Pg) : V := V.agg (pX p)
theorem Fld.rows_app (a : List Fld) (b : Fld) : Fld.rows (a ++ [b]) = Fld.rows a ++ [[D.str (bx b.name), D.int IntKind.i64 b.typ.k, D.list 2 (T.rows b.typ.l), D.int IntKind.i64 b.line, D.int IntKind.i64 b.col]] := by
  unfold Fld.rows; rw [List.map_append]; rfl
theorem Fld.rows_len (a : List Fld) : (Fld.rows a).length = a.length := List.length_map ..
theorem Fld.rows_one (b : Fld) : Fld.rows [b] = [[D.str (bx b.name), D.int IntKind.i64 b.typ.k, D.list 2 (T.rows b.typ.l), D.int IntKind.i64 b.line, D.int IntKind.i64 b.col]] := rfl
theorem Fnc.row_eq (f : Fnc) : Fnc.row f = [D.str (bx f.name), D.list 5 (Fld.rows f.params), D.int IntKind.i64 f.res.k, D.list 2 (T.rows f.res.l), D.int IntKind.i64 f.body.k, D.int IntKind.i64 f.body.n, D.str (bx f.body.name), D.list 1 (strs f.body.names), D.list 1 (ints f.body.odds), D.list 8 (E.rows f.body.kids), D.int IntKind.i64 f.body.line, D.int IntKind.i64 f.body.col, D.int IntKind.i64 f.line, D.int IntKind.i64 f.col] := by
  unfold Fnc.row; rw [E.row_eq]; rfl
theorem Fnc.rows_app (a : List Fnc) (f : Fnc) : Fnc.rows (a ++ [f]) = Fnc.rows a ++ [[D.str (bx f.name), D.list 5 (Fld.rows f.params), D.int IntKind.i64 f.res.k, D.list 2 (T.rows f.res.l), D.int IntKind.i64 f.body.k, D.int IntKind.i64 f.body.n, D.str (bx f.body.name), D.list 1 (strs f.body.names), D.list 1 (ints f.body.odds), D.list 8 (E.rows f.body.kids), D.int IntKind.i64 f.body.line, D.int IntKind.i64 f.body.col, D.int IntKind.i64 f.line, D.int IntKind.i64 f.col]] := by
  unfold Fnc.rows; rw [List.map_append, List.map_singleton, Fnc.row_eq]
theorem Fnc.rows_len (a : List Fnc) : (Fnc.rows a).length = a.length := List.length_map ..
section
variable {l : List Tok}
def heads (t : Tok) (ps : List Fld) : Pm Fnc := want wRp (funRest t ps)
abbrev prog2 (ins : List Fld) (fs : List Fnc) : Pm Pg := .call .expr fun q => .ret ⟨ins, fs, q⟩
end
end Go.Proofs.Ytbmcafehpgimfaa.Ps
namespace Go.Proofs.Ytbmcafehpgimfaa.Ps
set_option linter.unusedVariables false
set_option linter.unusedSimpArgs false
open Go Go.RowKit Px
open Lx (Tok tok scan sm dg nm sgn val isWord ws nnl Flt)

theorem tok_kind {l : List UInt8} {k : Int} {w : List UInt8} {n : Int} (h : Lx.tok l = .ok k w n) : k ≠ 5 ∧ k ≠ 0 ∧ 0 ≤ n ∧ n ≤ 2147483647 := by
  unfold Lx.tok at h
  split at h
  · split at h
    · cases h
    · split at h <;> (cases h; decide)
  · split at h
    · split at h
      · cases h
      · rename_i h2
        cases h
        exact ⟨by decide, by decide, by omega, by omega⟩
    · split at h
      · cases h
      · cases h; decide
structure TokL (n : Nat) (l : List Tok) : Prop where
  few : l.length ≤ n + 1
  pos : 0 < l.length
  last : ∀ i, i < l.length → ((tk l i).kind = 5 ↔ i + 1 = l.length)
  nums : ∀ t ∈ l, 0 ≤ t.n ∧ t.n ≤ 2147483647
theorem tk_succ (t : Tok) (l : List Tok) (i : Nat) : tk (t :: l) (i + 1) = tk l i := rfl
theorem TokL.cons {n : Nat} {l : List Tok} (h : TokL n l) {t : Tok} (h1 : t.kind ≠ 5) (h2 : 0 ≤ t.n ∧ t.n ≤ 2147483647) : TokL (n + 1) (t :: l) where
  few := by have := h.few; rw [List.length_cons]; omega
  pos := by simp
  last := fun i hi => by
    cases i with
    | zero =>
      have := h.pos
      rw [List.length_cons]
      show t.kind = 5 ↔ _
      exact ⟨fun e => absurd e h1, fun e => by omega⟩
    | succ i =>
      rw [tk_succ]
      rw [List.length_cons] at hi ⊢
      rw [h.last i (by omega)]
      omega
  nums := fun x hx => by
    rcases List.mem_cons.1 hx with rfl | hx
    · exact h2
    · exact h.nums x hx
theorem TokL.mono {n m : Nat} {l : List Tok} (h : TokL n l) (hm : n ≤ m) : TokL m l := ⟨by have := h.few; omega, h.pos, h.last, h.nums⟩
theorem scan_tokl : ∀ (d : Nat) (l : List UInt8) (line col : Int) (r : List Tok), l.length < d → scan l line col = .ok r → TokL l.length r
  | 0, l, _, _, _, h, _ => by omega
  | d + 1, [], line, col, r, hd, h => by
    rw [scan] at h
    cases h
    exact ⟨by simp, by simp, fun i hi => by
      have : i = 0 := by simpa using hi
      subst this
      exact ⟨fun _ => rfl, fun _ => rfl⟩, fun t ht => by
      rw [List.mem_singleton.1 ht]
      exact ⟨Int.le_refl 0, (by decide : (0 : Int) ≤ 2147483647)⟩⟩
  | d + 1, c :: t, line, col, r, hd, h => by
    rw [List.length_cons] at hd
    rw [scan] at h
    split at h
    · exact (scan_tokl d t _ _ r (by omega) h).mono (by simp)
    split at h
    · exact (scan_tokl d t _ _ r (by omega) h).mono (by simp)
    split at h
    · have := (List.dropWhile_sublist (p := nnl) (l := t)).length_le
      exact (scan_tokl d _ _ _ r (by omega) h).mono (by rw [List.length_cons]; omega)
    cases ht : Lx.tok (c :: t) with
    | bad e w => rw [ht] at h; cases h
    | ok k w n =>
      rw [ht] at h
      simp only at h
      cases hs : scan (t.drop (w.length - 1)) line (col + w.length) with
      | error f => rw [hs] at h; cases h
      | ok l' =>
        rw [hs] at h
        cases h
        have h1 := scan_tokl d _ _ _ l' (by rw [List.length_drop]; omega) hs
        have hk := tok_kind ht
        exact (h1.cons (t := ⟨k, w, n, line, col⟩) hk.1 hk.2.2).mono (by rw [List.length_drop, List.length_cons]; omega)
theorem scan_bad : ∀ (d : Nat) (l : List UInt8) (line col : Int) (g : Flt), l.length < d → scan l line col = .error g → g.e ≠ 0
  | 0, l, _, _, _, h, _ => by omega
  | d + 1, [], line, col, r, hd, h => by rw [scan] at h; cases h
  | d + 1, c :: t, line, col, g, hd, h => by
    rw [List.length_cons] at hd
    rw [scan] at h
    split at h
    · exact scan_bad d t _ _ g (by omega) h
    split at h
    · exact scan_bad d t _ _ g (by omega) h
    split at h
    · have := (List.dropWhile_sublist (p := nnl) (l := t)).length_le
      exact scan_bad d _ _ _ g (by omega) h
    cases ht : Lx.tok (c :: t) with
    | bad e w =>
      rw [ht] at h
      cases h
      exact tok_bad ht
    | ok k w n =>
      rw [ht] at h
      simp only at h
      cases hs : scan (t.drop (w.length - 1)) line (col + w.length) with
      | error f =>
        rw [hs] at h
        cases h
        exact scan_bad d _ _ _ g (by rw [List.length_drop]; omega) hs
      | ok l' => rw [hs] at h; cases h
theorem scan_few {l : List UInt8} {r : List Tok} (hl : l.length ≤ 20000) (h : scan l 1 1 = .ok r) : Few r ∧ Nums r ∧ 0 < r.length := by
  have := scan_tokl _ l 1 1 r (Nat.lt_succ_self _) h
  refine ⟨⟨⟨this.last⟩, by have := this.few; omega⟩, fun i => ?_, this.pos⟩
  by_cases hi : i < r.length
  · have e : tk r i = r[i] := by unfold tk; rw [List.getD_eq_getElem?_getD, List.getElem?_eq_getElem hi]; rfl
    rw [e]
    exact this.nums _ (List.getElem_mem hi)
  · have e : tk r i = ⟨0, [], 0, 0, 0⟩ := by unfold tk; rw [List.getD_eq_getElem?_getD, List.getElem?_eq_none (by omega)]; rfl
    rw [e]
    exact ⟨by decide, by decide⟩

abbrev EXl : List Lf := [Lf.int IntKind.i64, Lf.int IntKind.i64, Lf.str, Lf.lst 1, Lf.lst 1, Lf.lst 8, Lf.int IntKind.i64, Lf.int IntKind.i64]
def eX (e : E) : List X := [X.d (D.int IntKind.i64 e.k), X.d (D.int IntKind.i64 e.n), X.d (D.str (bx e.name)), X.d (D.list 1 (strs e.names)), X.d (D.list 1 (ints e.odds)), X.d (D.list 8 (E.rows e.kids)), X.d (D.int IntKind.i64 e.line), X.d (D.int IntKind.i64 e.col)]
def noE : E := .mk 0 0 [] [] [] [] 0 0
def tokF (t : Tok) : Flt := ⟨11, t.text, t.line, t.col⟩
def wholeE (l : List Tok) : Rs E := run (pw l) l (.call .expr fun e => .knd 5 (.ret e) .fail) 0
theorem C_lit (l : List Tok) (hl : Few l) (hn : Nums l) (i : Nat) (hi : i < l.length) (e0 : E) :
    Cal 23 [V.one (X.ptr 0 0), V.one (X.ptr 1 0)] [(RD, rd l i), (EXl, eX e0)] (match pw l .expr i with
      | .ok a j => ⟨true, V.tup [], D.junk, [rd l j, eX a], 0⟩
      | .no j => ⟨false, V.junk, flt (tk l j), [rd l j, eX e0], 0⟩
      | .out => ⟨true, V.junk, D.junk, [], 0⟩) := by
  have h := exprs_ok hl hn i hi (pw_ends hl.good _ i hi)
  refine call23 _ _ _ _ _ _ _ _ _ _ ?_
  simp only [e23_eq]
  cases hp : pw l .expr i with
  | ok a j =>
    rw [hp] at h
    exact v_a8IISL1L1L8II_L5I h (Ev.ret _)
  | no j =>
    rw [hp] at h
    exact u_a8IISL1L1L8II_L5I h (Ev.ret _)
  | out => exact absurd hp (pw_ends hl.good _ i hi)
def ReadOut (s : List UInt8) (f : List X) (e : E) : Prop :=
  if 20000 < s.length then f = [iX 2, sX [], iX 0, iX 0] ∧ e = noE else
  match scan s 1 1 with
  | .error g => f = fltX g ∧ e = noE
  | .ok l => match wholeE l with
    | .ok a _ => f = fine ∧ e = a
    | .no j => f = fltX (tokF (tk l j))
    | .out => False
theorem C_read1 (s : List UInt8) : ∃ f e, ReadOut s f e ∧ Cal 22 [V.one (X.d (D.str (bx s))), V.one (X.fn 23 [X.ptr 0 0])] [(EXl, eX noE)] ⟨true, V.agg f, D.junk, [eX e], 0⟩ := by
  have ht := C_tokens s
  by_cases hs : 20000 < s.length
  · rw [if_pos hs] at ht
    refine ⟨_, _, by unfold ReadOut; rw [if_pos hs]; exact ⟨rfl, rfl⟩, ?_⟩
    refine call22f23 _ _ _ _ _ _ _ _ _ ?_
    simp only [e22f23_eq]
    exact v_t2oL5a4ISII ht (Ev.yes rfl (Ev.ret _))
  rw [if_neg hs] at ht
  unfold ReadOut
  simp only [if_neg hs]
  cases hsc : scan s 1 1 with
  | error g =>
    rw [hsc] at ht
    refine ⟨_, _, ⟨rfl, rfl⟩, ?_⟩
    refine call22f23 _ _ _ _ _ _ _ _ _ ?_
    simp only [e22f23_eq]
    have tl : tokOut [] (.error g) = V.tup [V.one (X.d (D.list 5 [])), V.agg (fltX g)] := rfl
    rw [tl] at ht
    exact v_t2oL5a4ISII ht (Ev.yes (by simpa using scan_bad _ s 1 1 g (Nat.lt_succ_self _) hsc) (Ev.ret _))
  | ok l =>
    rw [hsc] at ht
    have hfew := scan_few (by omega) hsc
    have h0 := hfew.2.2
    have hlit := C_lit l hfew.1 hfew.2.1 0 h0 noE
    have tl : tokOut [] (.ok l) = V.tup [V.one (X.d (D.list 5 (toks l))), V.agg fine] := rfl
    rw [tl] at ht
    simp only
    have e0 : wholeE l = thenR (pw l .expr 0) fun e j => run (pw l) l (.knd 5 (.ret e) .fail) j := run_call _ _ _
    rw [e0]
    cases hp : pw l .expr 0 with
    | out => exact absurd hp (pw_ends hfew.1.good _ 0 h0)
    | no j =>
      rw [hp] at hlit
      refine ⟨_, noE, rfl, ?_⟩
      refine call22f23 _ _ _ _ _ _ _ _ _ ?_
      simp only [e22f23_eq]
      refine v_t2oL5a4ISII ht (Ev.no rfl ?_)
      simp only [q22_0_v1_eq]
      exact u_n_L5I_IISL1L1L8II hlit (Ev.of fun m k n => rfl)
    | ok a j =>
      rw [hp] at hlit
      have hf := pw_ok hfew.1.good h0 hp
      have ht2 := C_token hf.2
      show ∃ f e, (match run (pw l) l (.knd 5 (.ret a) .fail) j with
        | .ok a _ => f = fine ∧ e = a
        | .no j => f = fltX (tokF (tk l j))
        | .out => False) ∧ _
      rw [run]
      cases hk : (tk l j).kind == 5 with
      | true =>
        refine ⟨_, a, ⟨rfl, rfl⟩, ?_⟩
        refine call22f23 _ _ _ _ _ _ _ _ _ ?_
        simp only [e22f23_eq]
        refine v_t2oL5a4ISII ht (Ev.no rfl ?_)
        simp only [q22_0_v1_eq, q22_1_v1_eq]
        exact v_n_L5I_IISL1L1L8II hlit (v_a5ISIII_L5I ht2 (Ev.no (by rw [bne, hk]; rfl) (Ev.ret _)))
      | false =>
        refine ⟨_, a, rfl, ?_⟩
        refine call22f23 _ _ _ _ _ _ _ _ _ ?_
        simp only [e22f23_eq]
        refine v_t2oL5a4ISII ht (Ev.no rfl ?_)
        simp only [q22_0_v1_eq]
        exact v_n_L5I_IISL1L1L8II hlit (v_a5ISIII_L5I ht2 (Ev.yes (by rw [bne, hk]; rfl) (u_n_L5I (C_fail hf.2) (Ev.of fun m k n => rfl))))
end Go.Proofs.Ytbmcafehpgimfaa.Ps
namespace Go.Proofs.Ytbmcafehpgimfaa.Px
set_option linter.unusedVariables false
set_option linter.unusedSimpArgs false
mutual
def deepE : E → Nat → Option E
  | e, 0 => some e
  | .mk _ _ _ _ _ ks _ _, n + 1 => deepEs ks n
def deepEs : List E → Nat → Option E
  | [], _ => none
  | x :: r, n => match deepE x n with
    | some y => some y
    | none => deepEs r n
end
def big (a b : Int) : Int := if a < b then b else a
mutual
def deepT : T → Int
  | .mk _ l => IntKind.wrap .i64 (deepTs l 0 + 1)
def deepTs : List T → Int → Int
  | [], a => a
  | x :: r, a => deepTs r (big a (deepT x))
end
theorem deepE_zero (e : E) : deepE e 0 = some e := by cases e; rw [deepE]
theorem deepE_succ (e : E) (n : Nat) : deepE e (n + 1) = deepEs e.kids n := by cases e; rw [deepE]; rfl
theorem deepT_eq (t : T) : deepT t = IntKind.wrap .i64 (deepTs t.l 0 + 1) := by cases t; rw [deepT]; rfl
def limE (e : E) : Option (Int × Int) := (deepE e 40).map fun x => (x.line, x.col)
def limT (t : T) (a b : Int) : Option (Int × Int) := if 40 < deepT t then some (a, b) else none
def limFs : List Fld → Option (Int × Int)
  | [] => none
  | f :: r => match limT f.typ f.line f.col with
    | some x => some x
    | none => limFs r
def limFn (f : Fnc) : Option (Int × Int) := match limFs f.params with
  | some x => some x
  | none => match limT f.res f.line f.col with
    | some x => some x
    | none => limE f.body
def limFns : List Fnc → Option (Int × Int)
  | [] => none
  | f :: r => match limFn f with
    | some x => some x
    | none => limFns r
def limP (p : Pg) : Option (Int × Int) := match limFs p.inputs with
  | some x => some x
  | none => match limFns p.funs with
    | some x => some x
    | none => limE p.query
end Go.Proofs.Ytbmcafehpgimfaa.Px
namespace Go.Proofs.Ytbmcafehpgimfaa.Ps
set_option linter.unusedVariables false
open Go Go.RowKit Px
open Lx (Tok)

def deepV : Option E → V
  | some e => V.tup [eV e, V.one (bX true)]
  | none => V.tup [eV noE, V.one (bX false)]
def limX : Option (Int × Int) → List X
  | none => fine
  | some (a, b) => [iX 2, sX [], iX a, iX b]
theorem E.rows_at (ks : List E) (i : Nat) (h : i < ks.length) : (E.rows ks).getD i [] = E.row ks[i] := by
  have : Inhabited E := ⟨noE⟩
  rw [E.rows_map, rows_getD _ _ _ h, List.getD_eq_getElem?_getD, List.getElem?_eq_getElem h]
  rfl
theorem T.rows_at (ks : List T) (i : Nat) (h : i < ks.length) : (T.rows ks).getD i [] = T.row ks[i] := by
  have : Inhabited T := ⟨.mk 0 []⟩
  rw [T.rows_map, rows_getD _ _ _ h, List.getD_eq_getElem?_getD, List.getElem?_eq_getElem h]
  rfl
theorem L_deep (ks : List E) (hk : ks.length < 9223372036854775807) (n : Nat) (hn : n ≤ 40) (H : ∀ x ∈ ks, Cal 57 [eV x, nV (Int.ofNat n)] [] (RV (deepV (deepE x n)))) (x4 x5 : Int) (s6 : ByteArray) (x7 x8 : Int) : ∀ (d i : Nat), i ≤ ks.length → ks.length - i = d →
    Ev (fun m k z => l57_0 m (Ak k) z (Int.ofNat n + 1) (E.rows ks) (Int.ofNat ks.length) (Int.ofNat i) x4 x5 s6 x7 x8) (RV (deepV (deepEs (ks.drop i) n))) := by
  intro d
  induction d with
  | zero =>
    intro i hi hd
    rw [List.drop_eq_nil_of_le (by omega), deepEs]
    refine Ev.step ?_
    simp only [l57_0_eq]
    refine Ev.no (lt_no i _ (by omega)) ?_
    simp only [q57_3_eq]
    refine Ev.of fun m k z => ?_
    unfold deepV eV noE
    simp only [E.rows_nil, E.kids]
    rfl
  | succ d ih =>
    intro i hi hd
    have hlt : i < ks.length := by omega
    have hat := E.rows_at ks i hlt
    rw [E.row_eq] at hat
    rw [List.drop_eq_getElem_cons hlt, deepEs]
    refine Ev.step ?_
    simp only [l57_0_eq]
    refine Ev.yes (lt_yes i _ hlt) ?_
    simp only [q57_1_eq, tn, hat]
    refine Ev.yes (in_range i _ (by rw [E.rows_len]; exact hlt)) ?_
    have hw : IntKind.wrap .i64 (Int.ofNat n + 1 - 1) = Int.ofNat n := by rw [wrap_in _ (by simp only [Int.ofNat_eq_natCast]; omega) (by simp only [Int.ofNat_eq_natCast]; omega)]; omega
    rw [hw]
    have hc := H ks[i] (List.getElem_mem hlt)
    cases hx : deepE ks[i] n with
    | some y =>
      rw [hx] at hc
      exact v_t2a8IISL1L1L8IIoB hc (Ev.yes rfl (Ev.ret _))
    | none =>
      rw [hx] at hc
      refine v_t2a8IISL1L1L8IIoB hc (Ev.no rfl ?_)
      simp only [q57_2_eq, wrap_up i (by omega)]
      exact ih (i + 1) (by omega) (by omega)
mutual
def SmallE : E → Prop
  | .mk _ _ _ _ _ ks _ _ => ks.length < 9223372036854775807 ∧ SmallEs ks
def SmallEs : List E → Prop
  | [] => True
  | x :: r => SmallE x ∧ SmallEs r
end
mutual
theorem C_deep : ∀ (e : E), SmallE e → ∀ n, n ≤ 40 → Cal 57 [eV e, nV (Int.ofNat n)] [] (RV (deepV (deepE e n)))
  | e, hs, 0, _ => by
    rw [deepE_zero]
    refine call57 _ _ _ _ _ _ _ _ _ ?_
    simp only [e57_eq]
    exact Ev.yes rfl (Ev.ret _)
  | .mk k m s ns os ks a b, hs, n + 1, hn => by
    rw [SmallE] at hs
    rw [deepE_succ]
    refine call57 _ _ _ _ _ _ _ _ _ ?_
    simp only [e57_eq]
    refine Ev.no (decide_eq_false (by simp only [Int.ofNat_eq_natCast]; omega)) ?_
    simp only [q57_0_eq]
    have := L_deep ks hs.1 n (by omega) (C_deepAll ks hs.2 n (by omega))
    have h2 := fun (x4 x5 : Int) (s6 : ByteArray) (x7 x8 : Int) => Ev.diag (this x4 x5 s6 x7 x8 _ 0 (Nat.zero_le _) rfl)
    have e1 : Int.ofNat (E.rows (E.mk k m s ns os ks a b).kids).length = Int.ofNat ks.length := congrArg Int.ofNat (E.rows_len ks)
    rw [e1]
    exact h2 _ _ _ _ _
theorem C_deepAll : ∀ (ks : List E), SmallEs ks → ∀ n, n ≤ 40 → ∀ x ∈ ks, Cal 57 [eV x, nV (Int.ofNat n)] [] (RV (deepV (deepE x n)))
  | [], _, _, _, x, hx => by cases hx
  | y :: r, hs, n, hn, x, hx => by
    rw [SmallEs] at hs
    rcases List.mem_cons.1 hx with h | h
    · rw [h]; exact C_deep y hs.1 n hn
    · exact C_deepAll r hs.2 n hn x h
end
theorem C_limit (e : E) (hs : SmallE e) : Cal 25 [eV e] [] (RV (V.agg (limX (limE e)))) := by
  refine call25 _ _ _ _ _ _ _ _ ?_
  simp only [e25_eq]
  have h := C_deep e hs 40 (by decide)
  unfold limE
  cases hd : deepE e 40 with
  | some y =>
    rw [hd] at h
    exact v_t2a8IISL1L1L8IIoB h (Ev.yes rfl (Ev.ret _))
  | none =>
    rw [hd] at h
    refine v_t2a8IISL1L1L8IIoB h (Ev.no rfl ?_)
    exact Ev.of fun m k n => by rw [q25_0_eq]; rfl
end Go.Proofs.Ytbmcafehpgimfaa.Ps
namespace Go.Proofs.Ytbmcafehpgimfaa.Ps
set_option linter.unusedVariables false
set_option linter.unusedSimpArgs false
open Go Go.RowKit Px
open Lx (Tok)

mutual
def SmallT : T → Prop
  | .mk _ l => l.length < 9223372036854775807 ∧ SmallTs l
def SmallTs : List T → Prop
  | [] => True
  | x :: r => SmallT x ∧ SmallTs r
end
theorem deepTs_step (ks : List T) (i : Nat) (h : i < ks.length) (a : Int) : deepTs (ks.drop i) a = deepTs (ks.drop (i + 1)) (big a (deepT ks[i])) := by
  rw [List.drop_eq_getElem_cons h, deepTs]
theorem L_deepT (ks : List T) (hk : ks.length < 9223372036854775807) (H : ∀ x ∈ ks, Cal 75 [tV x] [] (RV (nV (deepT x)))) : ∀ (d i : Nat) (a : Int), i ≤ ks.length → ks.length - i = d →
    Ev (fun m k z => l75_0 m (Ak k) z a (T.rows ks) (Int.ofNat ks.length) (Int.ofNat i)) (RV (nV (IntKind.wrap .i64 (deepTs (ks.drop i) a + 1)))) := by
  intro d
  induction d with
  | zero =>
    intro i a hi hd
    rw [List.drop_eq_nil_of_le (by omega), deepTs]
    refine Ev.step ?_
    simp only [l75_0_eq]
    refine Ev.no (lt_no i _ (by omega)) ?_
    simp only [q75_2_eq]
    exact Ev.ret _
  | succ d ih =>
    intro i a hi hd
    have hlt : i < ks.length := by omega
    have hat := T.rows_at ks i hlt
    rw [T.row_eq] at hat
    rw [deepTs_step ks i hlt]
    refine Ev.step ?_
    simp only [l75_0_eq]
    refine Ev.yes (lt_yes i _ hlt) ?_
    simp only [q75_0_eq, tn, hat]
    refine Ev.yes (in_range i _ (by rw [T.rows_len]; exact hlt)) ?_
    have hc := H ks[i] (List.getElem_mem hlt)
    refine v_oI hc ?_
    simp only [q75_1_eq, wrap_up i (show i < 9223372036854775807 by omega)]
    exact ih (i + 1) _ (by omega) (by omega)
mutual
theorem C_deepT : ∀ (t : T), SmallT t → Cal 75 [tV t] [] (RV (nV (deepT t)))
  | .mk k l, hs => by
    rw [SmallT] at hs
    rw [deepT_eq]
    refine call75 _ _ ?_
    simp only [e75_eq]
    have := Ev.diag (L_deepT l hs.1 (C_deepTs l hs.2) _ 0 0 (Nat.zero_le _) rfl)
    have e1 : Int.ofNat (T.rows (T.mk k l).l).length = Int.ofNat l.length := congrArg Int.ofNat (T.rows_len l)
    rw [e1]
    exact this
theorem C_deepTs : ∀ (ks : List T), SmallTs ks → ∀ x ∈ ks, Cal 75 [tV x] [] (RV (nV (deepT x)))
  | [], _, x, hx => by cases hx
  | y :: r, hs, x, hx => by
    rw [SmallTs] at hs
    rcases List.mem_cons.1 hx with h | h
    · rw [h]; exact C_deepT y hs.1
    · exact C_deepTs r hs.2 x h
end
theorem Fld.rows_at (ks : List Fld) (i : Nat) (h : i < ks.length) : (Fld.rows ks).getD i [] = Fld.row ks[i] := by
  have : Inhabited Fld := ⟨⟨[], .mk 0 [], 0, 0⟩⟩
  unfold Fld.rows
  rw [rows_getD _ _ _ h, List.getD_eq_getElem?_getD, List.getElem?_eq_getElem h]
  rfl
theorem Fnc.rows_at (ks : List Fnc) (i : Nat) (h : i < ks.length) : (Fnc.rows ks).getD i [] = Fnc.row ks[i] := by
  have : Inhabited Fnc := ⟨⟨[], [], .mk 0 [], noE, 0, 0⟩⟩
  unfold Fnc.rows
  rw [rows_getD _ _ _ h, List.getD_eq_getElem?_getD, List.getElem?_eq_getElem h]
  rfl
section
variable (p : Pg) (x13 x15 x16 : Int) (s14 : ByteArray)
structure SmallFn (f : Fnc) : Prop where
  len : f.params.length < 9223372036854775807
  typ : ∀ x ∈ f.params, SmallT x.typ
  res : SmallT f.res
  body : SmallE f.body
structure SmallP (p : Pg) : Prop where
  ilen : p.inputs.length < 9223372036854775807
  ityp : ∀ x ∈ p.inputs, SmallT x.typ
  flen : p.funs.length < 9223372036854775807
  fn : ∀ f ∈ p.funs, SmallFn f
  query : SmallE p.query
end
end Go.Proofs.Ytbmcafehpgimfaa.Ps
namespace Go.Proofs.Ytbmcafehpgimfaa.Ps
set_option linter.unusedVariables false
set_option linter.unusedSimpArgs false
open Go Go.RowKit Px
open Lx (Tok tok scan sm dg nm sgn val isWord ws nnl Flt)

theorem wEs_len : ∀ l : List E, l.length ≤ wEs l
  | [] => by rw [wEs]; exact Nat.le_refl _
  | x :: r => by
    have := wEs_len r
    have := wE_pos x
    rw [wEs, List.length_cons]
    omega
mutual
theorem small_E : ∀ e : E, wE e < 9223372036854775807 → SmallE e
  | .mk k n s ns os ks a b, h => by
    rw [wE] at h
    rw [SmallE]
    have := wEs_len ks
    exact ⟨by omega, small_Es ks (by omega)⟩
theorem small_Es : ∀ l : List E, wEs l < 9223372036854775807 → SmallEs l
  | [], _ => by rw [SmallEs]; trivial
  | x :: r, h => by
    rw [wEs] at h
    rw [SmallEs]
    exact ⟨small_E x (by omega), small_Es r (by omega)⟩
end
theorem wT_pos (t : T) : 1 ≤ wT t := by cases t; rw [wT]; omega
theorem wTs_len : ∀ l : List T, l.length ≤ wTs l
  | [] => by rw [wTs]; exact Nat.le_refl _
  | x :: r => by
    have := wTs_len r
    have := wT_pos x
    rw [wTs, List.length_cons]
    omega
mutual
theorem small_T : ∀ t : T, wT t < 9223372036854775807 → SmallT t
  | .mk k l, h => by
    rw [wT] at h
    rw [SmallT]
    have := wTs_len l
    exact ⟨by omega, small_Ts l (by omega)⟩
theorem small_Ts : ∀ l : List T, wTs l < 9223372036854775807 → SmallTs l
  | [], _ => by rw [SmallTs]; trivial
  | x :: r, h => by
    rw [wTs] at h
    rw [SmallTs]
    exact ⟨small_T x (by omega), small_Ts r (by omega)⟩
end
def okF : Flt := ⟨0, [], 0, 0⟩
def limF (x : Int × Int) : Flt := ⟨2, [], x.1, x.2⟩
def exprL (l : List Tok) : E × Flt :=
  match wholeE l with
  | .ok a _ => match limE a with
    | none => (a, okF)
    | some x => (noE, limF x)
  | .no j => (noE, tokF (tk l j))
  | .out => (noE, okF)
def exprF (s : List UInt8) : E × Flt :=
  if 20000 < s.length then (noE, limF (0, 0)) else
  match scan s 1 1 with
  | .error g => (noE, g)
  | .ok l => exprL l
theorem C_Expr (s : List UInt8) : Cal 11 [V.one (X.d (D.str (bx s)))] [] (RV (V.tup [eV (exprF s).1, V.agg (fltX (exprF s).2)])) := by
  obtain ⟨f, e, ho, hc⟩ := C_read1 s
  refine call11 _ ?_
  simp only [e11_eq]
  unfold ReadOut at ho
  unfold exprF
  by_cases hs : 20000 < s.length
  · rw [if_pos hs] at ho ⊢
    obtain ⟨rfl, rfl⟩ := ho
    refine v_a4ISII_IISL1L1L8II hc (Ev.no rfl ?_)
    simp only [q11_0_eq]
    exact Ev.yes rfl (Ev.of fun m k n => by unfold eV noE; simp only [E.kids, E.rows_nil]; rfl)
  rw [if_neg hs] at ho ⊢
  cases hsc : scan s 1 1 with
  | error g =>
    rw [hsc] at ho
    obtain ⟨rfl, rfl⟩ := ho
    have hb := scan_bad _ s 1 1 g (Nat.lt_succ_self _) hsc
    refine v_a4ISII_IISL1L1L8II hc (Ev.no (by simpa using hb) ?_)
    simp only [q11_0_eq]
    exact Ev.yes (by simpa using hb) (Ev.of fun m k n => by unfold eV noE; simp only [E.kids, E.rows_nil]; rfl)
  | ok l =>
    rw [hsc] at ho
    have hfew := scan_few (by omega) hsc
    show Ev _ (RV (V.tup [eV (exprL l).1, V.agg (fltX (exprL l).2)]))
    unfold exprL
    simp only at ho
    cases hw : wholeE l with
    | out => rw [hw] at ho; exact ho.elim
    | no j =>
      rw [hw] at ho
      simp only at ho
      subst ho
      refine v_a4ISII_IISL1L1L8II hc (Ev.no rfl ?_)
      simp only [q11_0_eq]
      exact Ev.yes rfl (Ev.of fun m k n => by unfold eV noE; simp only [E.kids, E.rows_nil]; rfl)
    | ok a j =>
      rw [hw] at ho
      obtain ⟨rfl, rfl⟩ := ho
      have hsm : SmallE e := by
        have h2 : wholeE l = thenR (pw l .expr 0) fun e j => run (pw l) l (.knd 5 (.ret e) .fail) j := run_call _ _ _
        rw [h2] at hw
        cases hp : pw l .expr 0 with
        | out => rw [hp] at hw; cases hw
        | no k => rw [hp] at hw; cases hw
        | ok b k =>
          rw [hp] at hw
          have h3 := pw_wt hp
          have h4 := (pw_ok hfew.1.good hfew.2.2 hp).2
          have h5 := hfew.1.len
          have : b = e := by
            replace hw : run (pw l) l (.knd 5 (.ret b) .fail) k = .ok e j := hw
            rw [run] at hw
            cases hk : (tk l k).kind == 5 with
            | true => rw [hk] at hw; cases hw; rfl
            | false => rw [hk] at hw; cases hw
          subst this
          refine small_E b ?_
          have h6 : wE b + 0 ≤ 0 + k := h3
          omega
      have hl := C_limit e hsm
      refine v_a4ISII_IISL1L1L8II hc (Ev.yes rfl ?_)
      simp only
      cases hx : limE e with
      | none =>
        rw [hx] at hl
        refine v_a4ISII hl ?_
        simp only [q11_0_eq, q11_1_eq]
        exact Ev.no rfl (Ev.ret _)
      | some x =>
        rw [hx] at hl
        refine v_a4ISII hl ?_
        simp only [q11_0_eq]
        exact Ev.yes rfl (Ev.of fun m k n => by unfold eV noE; simp only [E.kids, E.rows_nil]; rfl)

abbrev PXl : List Lf := [Lf.lst 5, Lf.lst 14, Lf.int IntKind.i64, Lf.int IntKind.i64, Lf.str, Lf.lst 1, Lf.lst 1, Lf.lst 8, Lf.int IntKind.i64, Lf.int IntKind.i64]
def noP : Pg := ⟨[], [], noE⟩
def wholeP (l : List Tok) : Rs Pg := run (pw l) l (.call .program fun e => .knd 5 (.ret e) .fail) 0
def ReadOutP (s : List UInt8) (f : List X) (e : Pg) : Prop :=
  if 20000 < s.length then f = [iX 2, sX [], iX 0, iX 0] ∧ e = noP else
  match scan s 1 1 with
  | .error g => f = fltX g ∧ e = noP
  | .ok l => match wholeP l with
    | .ok a _ => f = fine ∧ e = a
    | .no j => f = fltX (tokF (tk l j))
    | .out => False
def progL_ (l : List Tok) : Pg × Flt :=
  match wholeP l with
  | .ok a _ => match limP a with
    | none => (a, okF)
    | some x => (noP, limF x)
  | .no j => (noP, tokF (tk l j))
  | .out => (noP, okF)
def progF (s : List UInt8) : Pg × Flt :=
  if 20000 < s.length then (noP, limF (0, 0)) else
  match scan s 1 1 with
  | .error g => (noP, g)
  | .ok l => progL_ l
end Go.Proofs.Ytbmcafehpgimfaa.Ps
namespace Go.Proofs.Ytbmcafehpgimfaa.Ps
set_option linter.unusedVariables false
set_option linter.unusedSimpArgs false
open Go Go.RowKit Px
open Lx (Tok tok scan Flt)

abbrev YES : Out := RV (V.one (bX true))
theorem C_awake : Cal 10 [] [] YES := by
  refine ⟨100, fun m k n h1 h2 h3 => ?_⟩
  obtain ⟨k, rfl⟩ : ∃ k', k = k' + 100 := ⟨k - 100, by omega⟩
  exact awake_all k
theorem awake_end {Q : Nat → Nat → Nat → D → Option Out} : Ev (fun m k n => r_oB (Ak k false 10 [] []) (fun c => some (RV (V.one (bX c)))) (Q m k n)) YES := v_oB C_awake (Ev.ret _)
theorem wholeE_eq (l : List Tok) : wholeE l = thenR (pw l .expr 0) fun e j => run (pw l) l (.knd 5 (.ret e) .fail) j := run_call _ _ _
theorem run_end {α : Type} (l : List Tok) (a : α) (j : Nat) : run (pw l) l (.knd 5 (.ret a) .fail) j = bif (tk l j).kind == 5 then .ok a j else .no j := by
  rw [run]
  cases (tk l j).kind == 5 <;> rfl
theorem wholeE_some {l : List Tok} {e : E} {j : Nat} (h : wholeE l = .ok e j) : pw l .expr 0 = .ok e j ∧ ((tk l j).kind == 5) = true := by
  rw [wholeE_eq] at h
  cases hp : pw l .expr 0 with
  | no k => rw [hp] at h; cases h
  | out => rw [hp] at h; cases h
  | ok a k =>
    rw [hp] at h
    replace h : run (pw l) l (.knd 5 (.ret a) .fail) k = .ok e j := h
    rw [run_end] at h
    cases hk : (tk l k).kind == 5 with
    | false => rw [hk] at h; cases h
    | true => rw [hk] at h; cases h; exact ⟨rfl, hk⟩
end Go.Proofs.Ytbmcafehpgimfaa.Ps
namespace Go.Proofs.Ytbmcafehpgimfaa.Ps
set_option linter.unusedVariables false
set_option linter.unusedSimpArgs false
open Go Go.RowKit Px
open Lx (Tok)

theorem strs_at (ks : List (List UInt8)) (i : Nat) (h : i < ks.length) : (strs ks).getD i [] = [D.str (bx ks[i])] := by
  unfold strs
  rw [rows_getD _ _ _ h, List.getD_eq_getElem?_getD, List.getElem?_eq_getElem h]
  rfl
theorem ints_at (ks : List Int) (i : Nat) (h : i < ks.length) : (ints ks).getD i [] = [D.int IntKind.i64 ks[i]] := by
  unfold ints
  rw [rows_getD _ _ _ h, List.getD_eq_getElem?_getD, List.getElem?_eq_getElem h]
  rfl
abbrev PEX (e : E) (F : Int → Int → ByteArray → List (List D) → List (List D) → List (List D) → Int → Int → Option Out) : Option Out := F e.k e.n (bx e.name) (strs e.names) (ints e.odds) (E.rows e.kids) e.line e.col
theorem ne_self (a : Int) : (a != a) = false := by simp
theorem beqL_self (s : ByteArray) : beqL s.data.toList s.data.toList = true := by rw [beqL_eq]; simp
theorem lpc2 (e : E) (hk : e.kids.length < 9223372036854775807) (H : ∀ x ∈ e.kids, Cal 13 [eV x, eV x] [] (RV (V.one (bX true)))) : ∀ (d i : Nat), i ≤ e.kids.length → e.kids.length - i = d →
    Ev (fun m k n => l13_2 m (Ak k) n (Int.ofNat i) e.k e.n (bx e.name) (strs e.names) (ints e.odds) (E.rows e.kids) e.line e.col e.k e.n (bx e.name) (strs e.names) (ints e.odds) (E.rows e.kids) e.line e.col) (RV (V.one (bX true))) := by
  intro d
  induction d with
  | zero =>
    intro i hi hd
    refine Ev.step ?_
    simp only [l13_2_eq, E.rows_len]
    exact Ev.no (lt_no i _ (by omega)) (Ev.of fun m k n => by rw [q13_9_eq])
  | succ d ih =>
    intro i hi hd
    have hlt : i < e.kids.length := by omega
    have hat := E.rows_at e.kids i hlt
    rw [E.row_eq] at hat
    refine Ev.step ?_
    simp only [l13_2_eq, E.rows_len]
    refine Ev.yes (lt_yes i _ hlt) ?_
    simp only [q13_7_eq, tn, hat, E.rows_len]
    refine Ev.yes (in_range i _ hlt) (Ev.yes (in_range i _ hlt) ?_)
    refine v_oB (H e.kids[i] (List.getElem_mem hlt)) (Ev.no rfl ?_)
    simp only [q13_8_eq, wrap_up i (show i < 9223372036854775807 by omega)]
    exact ih (i + 1) (by omega) (by omega)
theorem lpc1 (e : E) (ho : e.odds.length < 9223372036854775807) {r : Out} (hr : Ev (fun m k n => l13_2 m (Ak k) n 0 e.k e.n (bx e.name) (strs e.names) (ints e.odds) (E.rows e.kids) e.line e.col e.k e.n (bx e.name) (strs e.names) (ints e.odds) (E.rows e.kids) e.line e.col) r) : ∀ (d i : Nat), i ≤ e.odds.length → e.odds.length - i = d →
    Ev (fun m k n => l13_1 m (Ak k) n (Int.ofNat i) e.k e.n (bx e.name) (strs e.names) (ints e.odds) (E.rows e.kids) e.line e.col e.k e.n (bx e.name) (strs e.names) (ints e.odds) (E.rows e.kids) e.line e.col) r := by
  intro d
  induction d with
  | zero =>
    intro i hi hd
    refine Ev.step ?_
    simp only [l13_1_eq, ints_len]
    refine Ev.no (lt_no i _ (by omega)) ?_
    simp only [q13_6_eq]
    exact Ev.diag hr
  | succ d ih =>
    intro i hi hd
    have hlt : i < e.odds.length := by omega
    have hat := ints_at e.odds i hlt
    refine Ev.step ?_
    simp only [l13_1_eq, ints_len]
    refine Ev.yes (lt_yes i _ hlt) ?_
    simp only [q13_4_eq, tn, hat, ints_len, ne_self]
    refine Ev.yes (in_range i _ hlt) (Ev.yes (in_range i _ hlt) (Ev.yes rfl (Ev.yes rfl (Ev.no rfl ?_))))
    simp only [q13_5_eq, wrap_up i (show i < 9223372036854775807 by omega)]
    exact ih (i + 1) (by omega) (by omega)
theorem lpc0 (e : E) (ho : e.names.length < 9223372036854775807) {r : Out} (hr : Ev (fun m k n => l13_1 m (Ak k) n 0 e.k e.n (bx e.name) (strs e.names) (ints e.odds) (E.rows e.kids) e.line e.col e.k e.n (bx e.name) (strs e.names) (ints e.odds) (E.rows e.kids) e.line e.col) r) : ∀ (d i : Nat), i ≤ e.names.length → e.names.length - i = d →
    Ev (fun m k n => l13_0 m (Ak k) n (Int.ofNat i) e.k e.n (bx e.name) (strs e.names) (ints e.odds) (E.rows e.kids) e.line e.col e.k e.n (bx e.name) (strs e.names) (ints e.odds) (E.rows e.kids) e.line e.col) r := by
  intro d
  induction d with
  | zero =>
    intro i hi hd
    refine Ev.step ?_
    simp only [l13_0_eq, strs_len]
    refine Ev.no (lt_no i _ (by omega)) ?_
    simp only [q13_3_eq]
    exact Ev.diag hr
  | succ d ih =>
    intro i hi hd
    have hlt : i < e.names.length := by omega
    have hat := strs_at e.names i hlt
    refine Ev.step ?_
    simp only [l13_0_eq, strs_len]
    refine Ev.yes (lt_yes i _ hlt) ?_
    simp only [q13_1_eq, tn, hat, strs_len, beqL_self]
    refine Ev.yes (in_range i _ hlt) (Ev.yes (in_range i _ hlt) (Ev.yes rfl (Ev.yes rfl (Ev.no rfl ?_))))
    simp only [q13_2_eq, wrap_up i (show i < 9223372036854775807 by omega)]
    exact ih (i + 1) (by omega) (by omega)
mutual
theorem C_placed : ∀ (e : E), wE e < 9223372036854775807 → Cal 13 [eV e, eV e] [] (RV (V.one (bX true)))
  | .mk k n s ns os ks a b, h => by
    have h0 := h
    rw [wE] at h
    have hkl := wEs_len ks
    have H := C_placedAll ks (by omega)
    refine call13 _ _ _ _ _ _ _ _ _ _ _ _ _ _ _ _ ?_
    simp only [e13_eq, ne_self, beqL_self]
    refine Ev.no rfl (Ev.no rfl (Ev.no rfl (Ev.no rfl (Ev.no rfl (Ev.no rfl (Ev.no rfl (Ev.no rfl ?_)))))))
    simp only [q13_0_eq]
    have h2 := lpc2 (.mk k n s ns os ks a b) (show ks.length < _ by omega) H _ 0 (Nat.zero_le _) rfl
    have h1 := lpc1 (.mk k n s ns os ks a b) (show os.length < _ by omega) h2 _ 0 (Nat.zero_le _) rfl
    exact Ev.diag (lpc0 (.mk k n s ns os ks a b) (show ns.length < _ by omega) h1 _ 0 (Nat.zero_le _) rfl)
theorem C_placedAll : ∀ (ks : List E), wEs ks < 9223372036854775807 → ∀ x ∈ ks, Cal 13 [eV x, eV x] [] (RV (V.one (bX true)))
  | [], _, x, hx => by cases hx
  | y :: r, hs, x, hx => by
    rw [wEs] at hs
    rcases List.mem_cons.1 hx with h | h
    · rw [h]; exact C_placed y (by omega)
    · exact C_placedAll r (by omega) x h
end
end Go.Proofs.Ytbmcafehpgimfaa.Ps
namespace Go.Proofs.Ytbmcafehpgimfaa.Ps
set_option linter.unusedVariables false
set_option linter.unusedSimpArgs false
open Go Go.RowKit Px
open Lx (Tok scan Flt)

def deepR : Option E → V
  | some e => V.tup [V.agg [iX 2, sX [], iX e.line, iX e.col], V.one (bX true)]
  | none => V.tup [V.agg fine, V.one (bX false)]
theorem L_rdeep (e : E) (hk : e.kids.length < 9223372036854775807) (n : Nat) (hn : n ≤ 40) (H : ∀ x ∈ e.kids, Cal 29 [eV x, nV (Int.ofNat n)] [] (RV (deepR (deepE x n)))) (x4 : Int) (s5 : ByteArray) (x6 x7 : Int) : ∀ (d i : Nat), i ≤ e.kids.length → e.kids.length - i = d →
    Ev (fun m k z => l29_0 m (Ak k) z (Int.ofNat n + 1) (Int.ofNat i) e.k e.n (bx e.name) (strs e.names) (ints e.odds) (E.rows e.kids) e.line e.col x4 s5 x6 x7) (RV (deepR (deepEs (e.kids.drop i) n))) := by
  intro d
  induction d with
  | zero =>
    intro i hi hd
    rw [List.drop_eq_nil_of_le (by omega), deepEs]
    refine Ev.step ?_
    simp only [l29_0_eq, E.rows_len]
    exact Ev.no (lt_no i _ (by omega)) (Ev.of fun m k z => by rw [q29_3_eq]; rfl)
  | succ d ih =>
    intro i hi hd
    have hlt : i < e.kids.length := by omega
    have hat := E.rows_at e.kids i hlt
    rw [E.row_eq] at hat
    rw [List.drop_eq_getElem_cons hlt, deepEs]
    refine Ev.step ?_
    simp only [l29_0_eq, E.rows_len]
    refine Ev.yes (lt_yes i _ hlt) ?_
    simp only [q29_1_eq, tn, hat]
    refine Ev.yes (in_range i _ (by rw [E.rows_len]; exact hlt)) ?_
    have hw : IntKind.wrap .i64 (Int.ofNat n + 1 - 1) = Int.ofNat n := by rw [wrap_in _ (by simp only [Int.ofNat_eq_natCast]; omega) (by simp only [Int.ofNat_eq_natCast]; omega)]; omega
    rw [hw]
    have hc := H e.kids[i] (List.getElem_mem hlt)
    cases hx : deepE e.kids[i] n with
    | some y =>
      rw [hx] at hc
      exact v_t2a4ISIIoB hc (Ev.yes rfl (Ev.ret _))
    | none =>
      rw [hx] at hc
      refine v_t2a4ISIIoB hc (Ev.no rfl ?_)
      simp only [q29_2_eq, wrap_up i (by omega)]
      exact ih (i + 1) (by omega) (by omega)
mutual
theorem C_rdeep : ∀ (e : E), SmallE e → ∀ n : Nat, n ≤ 40 → Cal 29 [eV e, nV (Int.ofNat n)] [] (RV (deepR (deepE e n)))
  | .mk k c s ns os ks a b, h, 0, hn => by
    refine call29 _ _ _ _ _ _ _ _ _ ?_
    rw [deepE_zero]
    simp only [e29_eq]
    exact Ev.yes rfl (Ev.ret _)
  | .mk k c s ns os ks a b, h, n + 1, hn => by
    rw [SmallE] at h
    have H := C_rdeeps ks h.2 n (by omega)
    refine call29 _ _ _ _ _ _ _ _ _ ?_
    rw [deepE_succ]
    simp only [e29_eq]
    refine Ev.no (decide_eq_false (by simp only [Int.ofNat_eq_natCast]; omega)) ?_
    simp only [q29_0_eq]
    have := L_rdeep (.mk k c s ns os ks a b) h.1 n (by omega) H 0 (ByteArray.mk #[]) 0 0 _ 0 (Nat.zero_le _) rfl
    exact Ev.diag this
theorem C_rdeeps : ∀ (ks : List E), SmallEs ks → ∀ n : Nat, n ≤ 40 → ∀ x ∈ ks, Cal 29 [eV x, nV (Int.ofNat n)] [] (RV (deepR (deepE x n)))
  | [], _, _, _, x, hx => by cases hx
  | z :: r, hs, n, hn, x, hx => by
    rw [SmallEs] at hs
    rcases List.mem_cons.1 hx with h | h
    · rw [h]; exact C_rdeep z hs.1 n hn
    · exact C_rdeeps r hs.2 n hn x h
end
theorem C_rfault {l : List Tok} {i : Nat} (hi : i < l.length) (b : Bool) : Cal 28 [P0] (rbs l i b) (ro (V.agg (fltX (tokF (tk l i)))) l i b) := by
  refine call28 _ _ _ (Ev.of fun m k n => ?_)
  rw [e28_eq, toks_len, in_range i _ hi, cond_true, tn, toks_at l i hi]
  rfl
theorem C_rExpr (s : List UInt8) : Cal 12 [V.one (X.d (D.str (bx s)))] [] (RV (V.tup [eV (exprF s).1, V.agg (fltX (exprF s).2)])) := by
  have htok := C_rtokens s
  refine call12 _ ?_
  simp only [e12_eq]
  unfold exprF
  have nil : ∀ f : Flt, RV (V.tup [eV noE, V.agg (fltX f)]) = RV (V.tup [V.agg [X.d (D.int IntKind.i64 0), X.d (D.int IntKind.i64 0), X.d (D.str (ByteArray.mk #[])), X.d (D.list 1 []), X.d (D.list 1 []), X.d (D.list 8 []), X.d (D.int IntKind.i64 0), X.d (D.int IntKind.i64 0)], V.agg (fltX f)]) := fun f => by unfold eV noE; simp only [E.kids, E.rows_nil]; rfl
  by_cases hs : 20000 < s.length
  · rw [if_pos hs] at htok ⊢
    rw [nil]
    exact v_t2oL5a4ISII htok (Ev.yes rfl (Ev.ret _))
  rw [if_neg hs] at htok ⊢
  cases hsc : scan s 1 1 with
  | error g =>
    rw [hsc] at htok
    have hb := scan_bad _ s 1 1 g (Nat.lt_succ_self _) hsc
    simp only
    rw [nil]
    exact v_t2oL5a4ISII htok (Ev.yes (by simpa using hb) (Ev.ret _))
  | ok l =>
    rw [hsc] at htok
    have hfew := scan_few (by omega) hsc
    have gl := hfew.1.good
    show Ev _ (RV (V.tup [eV (exprL l).1, V.agg (fltX (exprL l).2)]))
    refine v_t2oL5a4ISII htok (Ev.no rfl ?_)
    simp only [q12_0_eq]
    have hR := rexpr_ok hfew.1 hfew.2.1 0 hfew.2.2
    unfold exprL
    rw [wholeE_eq]
    cases hp : pw l .expr 0 with
    | out => exact absurd hp (pw_ends gl _ 0 hfew.2.2)
    | no j =>
      rw [hp] at hR
      have hj := pw_no gl hfew.2.2 hp
      obtain ⟨v, ⟨k, n, s', a, b, c, x, y, rfl⟩, hR⟩ := hR
      show Ev _ (RV (V.tup [eV noE, V.agg (fltX (tokF (tk l j)))]))
      rw [nil]
      refine v_a8IISL1L1L8II_L5IB hR (Ev.yes rfl ?_)
      exact v_a4ISII_L5IB (C_rfault hj true) (Ev.ret _)
    | ok a j =>
      rw [hp] at hR
      have hj := pw_ok gl hfew.2.2 hp
      refine v_a8IISL1L1L8II_L5IB hR (Ev.no rfl ?_)
      simp only [toks_len, tn, toks_at l j hj.2]
      refine Ev.yes (in_range j _ hj.2) (Ev.yes rfl ?_)
      rw [show thenR (Rs.ok a j) (fun e j => run (pw l) l (.knd 5 (.ret e) .fail) j) = (bif (tk l j).kind == 5 then .ok a j else .no j) from run_end l a j]
      show Ev (fun m κ n => bif (tk l j).kind != 5 then _ else _) _
      cases hk : (tk l j).kind == 5 with
      | false =>
        refine Ev.yes (by rw [bne, hk]; rfl) ?_
        show Ev _ (RV (V.tup [eV noE, V.agg (fltX (tokF (tk l j)))]))
        rw [nil]
        exact v_a4ISII_L5IB (C_rfault hj.2 false) (Ev.ret _)
      | true =>
        refine Ev.no (by rw [bne, hk]; rfl) ?_
        have h3 : wE a + 0 ≤ 0 + j := pw_wt hp
        have h5 := hfew.1.len
        have hd := C_rdeep a (small_E a (by omega)) 40 (Nat.le_refl _)
        simp only [q12_1_eq, cond_true]
        unfold limE
        cases hx : deepE a 40 with
        | some y =>
          rw [hx] at hd
          refine v_t2a4ISIIoB hd (Ev.yes rfl ?_)
          show Ev _ (RV (V.tup [eV noE, V.agg (fltX (limF (y.line, y.col)))]))
          rw [nil]
          exact Ev.ret _
        | none =>
          rw [hx] at hd
          refine v_t2a4ISIIoB hd (Ev.no rfl ?_)
          simp only [q12_2_eq]
          exact Ev.ret _
theorem exprF_small (s : List UInt8) : wE (exprF s).1 ≤ 1000000 := by
  have hn : wE noE ≤ 1000000 := by unfold noE; rw [wE_mk, wEs_nil]; decide
  unfold exprF
  by_cases hs : 20000 < s.length
  · rw [if_pos hs]; exact hn
  rw [if_neg hs]
  cases hsc : scan s 1 1 with
  | error g => exact hn
  | ok l =>
    have hfew := scan_few (by omega) hsc
    simp only
    unfold exprL
    cases hw : wholeE l with
    | out => exact hn
    | no j => exact hn
    | ok a j =>
      simp only
      cases hx : limE a with
      | some x => exact hn
      | none =>
        have h1 := (wholeE_some hw).1
        have h5 : wE a + 0 ≤ 0 + j := pw_wt h1
        have h6 := (pw_ok hfew.1.good hfew.2.2 h1).2
        have h7 := hfew.1.len
        show wE a ≤ 1000000
        omega
theorem lawExprs (s : List UInt8) : Cal 3 [V.one (X.d (D.str (bx s)))] [] YES := by
  refine call3 _ ?_
  simp only [e3_eq, bx_size]
  by_cases hs : 20100 < s.length
  · exact Ev.yes (decide_eq_true (by show (20100 : Int) < Int.ofNat s.length; simp only [Int.ofNat_eq_natCast]; omega)) awake_end
  refine Ev.no (decide_eq_false (by show ¬ (20100 : Int) < Int.ofNat s.length; simp only [Int.ofNat_eq_natCast]; omega)) ?_
  simp only [q3_0_eq]
  refine v_t2a8IISL1L1L8IIa4ISII (C_Expr s) ?_
  refine v_t2a8IISL1L1L8IIa4ISII (C_rExpr s) ?_
  have := exprF_small s
  refine v_oB (C_placed (exprF s).1 (by omega)) (Ev.yes rfl (Ev.yes ?_ awake_end))
  show ((exprF s).2.e == (exprF s).2.e && (beqL (bx (exprF s).2.text).data.toList (bx (exprF s).2.text).data.toList && ((exprF s).2.line == (exprF s).2.line && ((exprF s).2.col == (exprF s).2.col && true)))) = true
  rw [beqL_self]
  simp
end Go.Proofs.Ytbmcafehpgimfaa.Ps
