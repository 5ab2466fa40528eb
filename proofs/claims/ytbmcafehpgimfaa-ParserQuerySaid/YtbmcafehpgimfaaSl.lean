/- The program's lexer: what the plain scanner tells. -/
import Derived.Test.YtbmcafehpgimfaaPvL
import Derived.Test.YtbmcafehpgimfaaEn
namespace Go.Proofs.Ytbmcafehpgimfaa.Ps
set_option linter.unusedVariables false
set_option linter.unusedSimpArgs false
set_option maxRecDepth 4000
open Go Go.RowKit Px Lx

def tokV : Lx.R → V
  | .ok k w n => V.tup [V.agg [iX k, sX w, iX n, iX 0, iX 0], V.one (iX 0)]
  | .bad e w => V.tup [V.agg [iX 0, sX w, iX 0, iX 0, iX 0], V.one (iX e)]
abbrev RV (v : V) : Out := ⟨true, v, D.junk, [], 0⟩
theorem mem_takeWhile (p : UInt8 → Bool) : ∀ (l : List UInt8) (x : UInt8), x ∈ l.takeWhile p → p x = true
  | [], x, h => by simp at h
  | c :: t, x, h => by
    by_cases hc : p c = true
    · rw [List.takeWhile_cons_of_pos hc] at h
      rcases List.mem_cons.1 h with h | h
      · rw [h]; exact hc
      · exact mem_takeWhile p t x h
    · rw [List.takeWhile_cons_of_neg hc] at h; simp at h
theorem drop_cases (l : List UInt8) (i : Nat) (hi : i ≤ l.length) : (i = l.length ∧ l.drop i = []) ∨ (i < l.length ∧ ∃ c t, l.drop i = c :: t ∧ l.drop (i + 1) = t) := by
  by_cases h : i < l.length
  · refine .inr ⟨h, l[i], l.drop (i + 1), List.drop_eq_getElem_cons h, rfl⟩
  · exact .inl ⟨by omega, List.drop_eq_nil_of_le (by omega)⟩
theorem ext_bx (l : List UInt8) (a b : Nat) : (bx l).extract a b = bx ((l.take b).drop a) := by
  apply ByteArray.ext
  rw [ByteArray.data_extract]
  simp [bx, List.drop_take]
theorem get_bx (l : List UInt8) (i : Nat) (c : UInt8) (t : List UInt8) (h : l.drop i = c :: t) : ByteArray.get! (bx l) (Int.toNat (Int.ofNat i)) = c := by
  have hi : i < l.length := by
    by_cases hi : i < l.length
    · exact hi
    · rw [List.drop_eq_nil_of_le (by omega)] at h; cases h
  have h2 : l[i] = c := by
    rw [List.drop_eq_getElem_cons hi] at h
    injection h
  show (bx l).data[i]! = c
  have : (bx l).data = l.toArray := rfl
  rw [this, getElem!_pos _ _ (by simpa using hi)]
  simpa using h2
theorem get_bx0 (c : UInt8) (t : List UInt8) : ByteArray.get! (bx (c :: t)) 0 = c := get_bx (c :: t) 0 c t rfl
theorem C_small (c : UInt8) : Cal 76 [V.one (X.d (D.int IntKind.u8 (Int.ofNat c.toNat)))] [] (RV (V.one (bX (sm c)))) := by
  refine call76 _ (Ev.of fun m k n => ?_)
  rw [e76_eq]
  unfold sm
  have e1 : decide (Int.ofNat c.toNat ≥ 97) = decide (97 ≤ c.toNat) := decide_eq_decide.2 (by simp only [Int.ofNat_eq_natCast]; omega)
  have e2 : decide (Int.ofNat c.toNat ≤ 122) = decide (c.toNat ≤ 122) := decide_eq_decide.2 (by simp only [Int.ofNat_eq_natCast]; omega)
  rw [e1, e2]
  cases decide (97 ≤ c.toNat) <;> rfl
theorem C_digit (c : UInt8) : Cal 77 [V.one (X.d (D.int IntKind.u8 (Int.ofNat c.toNat)))] [] (RV (V.one (bX (dg c)))) := by
  refine call77 _ (Ev.of fun m k n => ?_)
  rw [e77_eq]
  unfold dg
  have e1 : decide (Int.ofNat c.toNat ≥ 48) = decide (48 ≤ c.toNat) := decide_eq_decide.2 (by simp only [Int.ofNat_eq_natCast]; omega)
  have e2 : decide (Int.ofNat c.toNat ≤ 57) = decide (c.toNat ≤ 57) := decide_eq_decide.2 (by simp only [Int.ofNat_eq_natCast]; omega)
  rw [e1, e2]
  cases decide (48 ≤ c.toNat) <;> rfl
theorem lib_step {f : FuncId} {args : List V} {rows : List (List Lf × List X)} {k : Nat} (h : progV f = none) : Ak (k + 1) false f args rows = libV (Ak k false) f args rows := by
  have e : Ak (k + 1) false f args rows = (match progV f with
    | some fn => cond (Nat.beq args.length fn.nparams) (runF (Ak k) shp rc false (shp f) fn k args rows) none
    | none => cond false none (libV (Ak k false) f args rows)) := rfl
  rw [e, h]
  rfl
theorem C_lcontains (s t : ByteArray) (h : s.size < 4294967281) : Cal 78 [V.one (X.d (D.str s)), V.one (X.d (D.str t))] [] (RV (V.one (bX (Lib.contains s.data.toList t.data.toList)))) := by
  refine ⟨1, fun m k n h1 h2 h3 => ?_⟩
  obtain ⟨k, rfl⟩ : ∃ k', k = k' + 1 := ⟨k - 1, by omega⟩
  refine (lib_step (by kernel_rfl)).trans ?_
  show cond (Nat.blt s.size 4294967281) _ none = _
  rw [show Nat.blt s.size 4294967281 = true from Nat.ble_eq_true_of_le h]
  rfl
theorem C_lindex (s : ByteArray) (c : Int) : Cal 93 [V.one (X.d (D.str s)), V.one (X.d (D.int IntKind.u8 c))] [] (RV (V.one (iX (Lib.indexByte s.data.toList c.toNat.toUInt8)))) := by
  refine ⟨1, fun m k n h1 h2 h3 => ?_⟩
  obtain ⟨k, rfl⟩ : ∃ k', k = k' + 1 := ⟨k - 1, by omega⟩
  refine (lib_step (by kernel_rfl)).trans ?_
  rfl

/-! ### Words -/
section
variable {x2 x3 x4 x5 x6 x7 : Int} {s3 s4 : ByteArray}
theorem L_word (l : List UInt8) (hl : l.length ≤ 1000000) : ∀ (d i : Nat), i ≤ l.length → l.length - i = d → ∀ r, Ev (fun m k n => q47_1 (Ak k) n (bx l) (Int.ofNat (i + ((l.drop i).takeWhile nm).length)) x2 s3 x4 x5 x6) r →
    Ev (fun m k n => l47_0 m (Ak k) n (bx l) (Int.ofNat i) x2 s3 x4 x5 x6) r := by
  intro d
  induction d with
  | zero =>
    intro i hi hd r h
    rw [List.drop_eq_nil_of_le (by omega)] at h
    refine Ev.step ?_
    simp only [l47_0_eq]
    exact Ev.no (lt_no i _ (by rw [bx_size]; omega)) h
  | succ d ih =>
    intro i hi hd r h
    rcases drop_cases l i hi with ⟨e, _⟩ | ⟨hlt, c, t, hc, ht⟩
    · omega
    · have hb := get_bx l i c t hc
      rw [hc] at h
      refine Ev.step ?_
      simp only [l47_0_eq, hb]
      refine Ev.yes (lt_yes i _ (by rw [bx_size]; exact hlt)) (Ev.yes (in_range i _ (by rw [bx_size]; exact hlt)) ?_)
      refine v_oB (C_small c) ?_
      by_cases hn : nm c = true
      · rw [List.takeWhile_cons_of_pos hn] at h
        have h2 := ih (i + 1) (by omega) (by omega) r (by rw [ht]; simpa [Nat.add_assoc, Nat.add_comm 1] using h)
        have go : Ev (fun m k n => q47_0 (Ak k) m n (bx l) (Int.ofNat i) x2 s3 x4 x5 x6) r := by
          simp only [q47_0_eq, wrap_up i (show i < 9223372036854775807 by omega)]
          exact h2
        cases h1 : sm c with
        | true => exact Ev.yes rfl go
        | false =>
          refine Ev.no rfl (Ev.yes (in_range i _ (by rw [bx_size]; exact hlt)) (v_oB (C_digit c) ?_))
          cases h3 : dg c with
          | true => exact Ev.yes rfl go
          | false =>
            refine Ev.no rfl (Ev.yes (in_range i _ (by rw [bx_size]; exact hlt)) (Ev.yes ?_ go))
            rw [beq_iff_eq]
            simp [nm, h1, h3] at hn
            rw [hn]; rfl
      · rw [List.takeWhile_cons_of_neg hn] at h
        have h1 : sm c = false := by
          cases e : sm c
          · rfl
          · exact absurd (sm_nm e) hn
        have h3 : dg c = false := by
          cases e : dg c
          · rfl
          · exact absurd (by simp [nm, e]) hn
        rw [h1]
        refine Ev.no rfl (Ev.yes (in_range i _ (by rw [bx_size]; exact hlt)) (v_oB (C_digit c) ?_))
        rw [h3]
        refine Ev.no rfl (Ev.yes (in_range i _ (by rw [bx_size]; exact hlt)) (Ev.no ?_ h))
        rw [beq_eq_false_iff_ne]
        intro e
        refine hn ?_
        have : c.toNat = 95 := by
          have e' : ((c.toNat : Nat) : Int) = 95 := e
          omega
        simp [nm, this]
theorem cut_ok (l : List UInt8) (n : Nat) (hn : n ≤ l.length) : (decide ((0 : Int) ≤ Int.ofNat n) && decide (Int.ofNat n ≤ Int.ofNat (bx l).size) && true && decide ((0 : Int) ≤ Int.ofNat n)) = true := by
  rw [bx_size]
  simp only [Int.ofNat_eq_natCast, Bool.and_eq_true, decide_eq_true_eq, and_true]
  omega
theorem Q_word (l : List UInt8) (n : Nat) (hl : l.length ≤ 1000000) (hn : n ≤ l.length) (hw : ∀ c ∈ l.take n, nm c = true) (hne : l.take n ≠ []) :
    Ev (fun _ k m => q47_1 (Ak k) m (bx l) (Int.ofNat n) x2 s3 x4 x5 x6) (RV (tokV (if 24 < n then .bad 2 (l.take n) else if isWord (l.take n) then .ok 2 (l.take n) 0 else .ok 1 (l.take n) 0))) := by
  have he : (bx l).extract 0 (Int.toNat (Int.ofNat n)) = bx (l.take n) := by rw [ext_bx]; rfl
  simp only [q47_1_eq, he]
  by_cases h : 24 < n
  · rw [if_pos h]
    exact Ev.yes (decide_eq_true (by show (24 : Int) < Int.ofNat n; simp only [Int.ofNat_eq_natCast]; omega)) (Ev.yes (cut_ok l n hn) (Ev.ret _))
  · rw [if_neg h]
    refine Ev.no (decide_eq_false (by show ¬ (24 : Int) < Int.ofNat n; simp only [Int.ofNat_eq_natCast]; omega)) ?_
    simp only [q47_2_eq, he]
    refine Ev.yes (cut_ok l n hn) (Ev.yes (Nat.ble_eq_true_of_le (by rw [bx_size, List.length_take]; omega)) (Ev.yes (Nat.ble_eq_true_of_le ?_) ?_))
    · show (bx [32] ++ bx (l.take n)).size + 1 ≤ _
      rw [bx_append, bx_size, List.length_append, List.length_take, List.length_singleton]; omega
    have hc := C_lcontains (bx wordText) (bx [32] ++ bx (l.take n) ++ bx [32]) (by rw [bx_size]; decide)
    have e1 : Lib.contains (bx wordText).data.toList (bx [32] ++ bx (l.take n) ++ bx [32]).data.toList = isWord (l.take n) := by
      rw [bx_append, bx_append, bx_data, bx_data, ← contains_isWord _ hw hne]
      simp
    rw [e1] at hc
    refine v_oB hc ?_
    cases hi : isWord (l.take n) with
    | true => exact Ev.yes rfl (Ev.yes (cut_ok l n hn) (Ev.ret _))
    | false =>
      refine Ev.no rfl ?_
      simp only [q47_3_eq, he]
      exact Ev.yes (cut_ok l n hn) (Ev.ret _)
/-! ### Numbers -/
/-- A value, cut off. -/
def cap (v : Nat) : Int := if (v : Int) ≤ 2147483647 then (v : Int) else 2147483648
theorem wrap_u8 (n : Int) (h : 0 ≤ n) (h' : n < 256) : IntKind.wrap .u8 n = n := by
  have e1 : IntKind.bits .u8 = 8 := rfl
  have e2 : IntKind.signed .u8 = false := rfl
  have e3 : (2 ^ 8 : Int) = 256 := rfl
  unfold IntKind.wrap
  simp only [e1, e2, e3, Bool.false_and]
  rw [Int.emod_eq_of_lt h h']
  rfl
theorem cap_next (v : Nat) (c : UInt8) (h : 48 ≤ c.toNat) (h' : c.toNat ≤ 57) :
    (if 2147483648 < IntKind.wrap .i64 (IntKind.wrap .i64 (cap v * 10) + IntKind.wrap .i64 (IntKind.wrap .u8 (Int.ofNat c.toNat - 48))) then (2147483648 : Int) else IntKind.wrap .i64 (IntKind.wrap .i64 (cap v * 10) + IntKind.wrap .i64 (IntKind.wrap .u8 (Int.ofNat c.toNat - 48)))) = cap (v * 10 + (c.toNat - 48)) := by
  have hc : 0 ≤ cap v ∧ cap v ≤ 2147483648 := by unfold cap; split <;> omega
  simp only [Int.ofNat_eq_natCast]
  rw [wrap_u8 _ (by omega) (by omega), wrap_in ((c.toNat : Int) - 48) (by omega) (by omega), wrap_in (cap v * 10) (by omega) (by omega), wrap_in _ (by omega) (by omega)]
  unfold cap
  split <;> split <;> split <;> omega
theorem L_digits (l : List UInt8) (hl : l.length ≤ 1000000) : ∀ (d i : Nat), i ≤ l.length → l.length - i = d → (∀ c ∈ l.take i, dg c = true) →
    ∀ r, Ev (fun m k n => q47_6 (Ak k) n (bx l) (Int.ofNat (i + ((l.drop i).takeWhile dg).length)) (cap (val (l.take (i + ((l.drop i).takeWhile dg).length)))) x3 s4 x5 x6 x7) r →
    Ev (fun m k n => l47_1 m (Ak k) n (bx l) (Int.ofNat i) (cap (val (l.take i))) x3 s4 x5 x6 x7) r := by
  intro d
  induction d with
  | zero =>
    intro i hi hd hw r h
    rw [List.drop_eq_nil_of_le (by omega)] at h
    refine Ev.step ?_
    simp only [l47_1_eq]
    exact Ev.no (lt_no i _ (by rw [bx_size]; omega)) h
  | succ d ih =>
    intro i hi hd hw r h
    rcases drop_cases l i hi with ⟨e, _⟩ | ⟨hlt, c, t, hc, ht⟩
    · omega
    · have hb := get_bx l i c t hc
      have hlc : l[i] = c := by
        rw [List.drop_eq_getElem_cons hlt] at hc
        injection hc
      have hsn : l.take (i + 1) = l.take i ++ [c] := by rw [List.take_succ_eq_append_getElem hlt, hlc]
      rw [hc] at h
      refine Ev.step ?_
      simp only [l47_1_eq, hb]
      refine Ev.yes (lt_yes i _ (by rw [bx_size]; exact hlt)) (Ev.yes (in_range i _ (by rw [bx_size]; exact hlt)) ?_)
      refine v_oB (C_digit c) ?_
      by_cases hn : dg c = true
      · rw [List.takeWhile_cons_of_pos hn] at h
        have h48 : 48 ≤ c.toNat ∧ c.toNat ≤ 57 := by simpa [dg] using hn
        have h2 := ih (i + 1) (by omega) (by omega) (by rw [hsn]; intro x hx; rcases List.mem_append.1 hx with hx | hx; exact hw x hx; rw [List.mem_singleton.1 hx]; exact hn) r
          (by rw [ht]; simpa [Nat.add_assoc, Nat.add_comm 1] using h)
        rw [hsn, val_snoc] at h2
        refine Ev.yes hn ?_
        simp only [q47_4_eq, hb, cap_next _ c h48.1 h48.2]
        refine Ev.yes (in_range i _ (by rw [bx_size]; exact hlt)) ?_
        simp only [q47_5_eq, wrap_up i (show i < 9223372036854775807 by omega)]
        exact h2
      · rw [List.takeWhile_cons_of_neg hn] at h
        exact Ev.no (by simpa using hn) h
theorem Q_digits (l : List UInt8) (n : Nat) (hn : n ≤ l.length) :
    Ev (fun _ k m => q47_6 (Ak k) m (bx l) (Int.ofNat n) (cap (val (l.take n))) x3 s4 x5 x6 x7) (RV (tokV (if 2147483647 < val (l.take n) then .bad 2 (l.take n) else .ok 3 (l.take n) (val (l.take n))))) := by
  have he : (bx l).extract 0 (Int.toNat (Int.ofNat n)) = bx (l.take n) := by rw [ext_bx]; rfl
  simp only [q47_6_eq, he]
  generalize val (l.take n) = v
  by_cases h : 2147483647 < v
  · have hc : cap v = 2147483648 := by unfold cap; rw [if_neg (by omega)]
    rw [if_pos h, hc]
    exact Ev.yes rfl (Ev.yes (cut_ok l n hn) (Ev.ret _))
  · have hc : cap v = (v : Int) := by unfold cap; rw [if_pos (by omega)]
    rw [if_neg h, hc]
    refine Ev.no (decide_eq_false (by show ¬ (2147483647 : Int) < (v : Int); omega)) ?_
    simp only [q47_7_eq, he]
    exact Ev.yes (cut_ok l n hn) (Ev.ret _)

/-! ### Signs -/
theorem C_prefix (l p : List UInt8) : Cal 92 [V.one (X.d (D.str (bx l))), V.one (X.d (D.str (bx p)))] [] (RV (V.one (bX (l.take p.length == p)))) := by
  refine call92 _ _ ?_
  simp only [e92_eq]
  have h : Cal 99 [V.one (X.d (D.str (bx l))), V.one (X.d (D.str (bx p)))] [] (RV (V.one (bX (l.take p.length == p)))) := by
    refine call99 _ _ ?_
    simp only [e99_eq, bx_size]
    by_cases hle : p.length ≤ l.length
    · refine Ev.yes (decide_eq_true (by show Int.ofNat p.length ≤ Int.ofNat l.length; exact Int.ofNat_le.2 hle)) (Ev.yes ?_ (Ev.of fun m k n => ?_))
      · simp only [Int.ofNat_eq_natCast, Bool.and_eq_true, decide_eq_true_eq, and_true]
        omega
      · rw [beqL_eq, ext_bx, bx_data, bx_data]
        rfl
    · refine Ev.no (decide_eq_false (by show ¬ Int.ofNat p.length ≤ Int.ofNat l.length; simp only [Int.ofNat_eq_natCast]; omega)) (Ev.of fun m k n => ?_)
      have : (l.take p.length == p) = false := by
        rw [beq_eq_false_iff_ne]
        intro e
        have := congrArg List.length e
        rw [List.length_take] at this
        omega
      rw [this]
  exact v_oB h (Ev.ret _)
theorem L_sign (l : List UInt8) (hne : l ≠ []) : ∀ (d i : Nat), i ≤ 4 → 4 - i = d →
    Ev (fun m k n => l79_0 m (Ak k) n (bx l) (strs twos) 4 (Int.ofNat i)) (RV (V.one (sX (if has (twos.drop i) (l.take 2) then l.take 2 else if hasB ones (l.headD 0) then l.take 1 else [])))) := by
  intro d
  induction d with
  | zero =>
    intro i hi hd
    obtain rfl : i = 4 := by omega
    obtain ⟨c, t, rfl⟩ : ∃ c t, l = c :: t := by cases l with | nil => exact absurd rfl hne | cons c t => exact ⟨c, t, rfl⟩
    refine Ev.step ?_
    simp only [l79_0_eq, q79_2_eq, get_bx0]
    have hp : decide ((0 : Int) < Int.ofNat (bx (c :: t)).size) = true := decide_eq_true (by rw [bx_size]; simp only [List.length_cons, Int.ofNat_eq_natCast]; omega)
    have hp1 : decide ((1 : Int) ≤ Int.ofNat (bx (c :: t)).size) = true := decide_eq_true (by rw [bx_size]; simp only [List.length_cons, Int.ofNat_eq_natCast]; omega)
    refine Ev.no rfl (Ev.yes (by rw [hp]; rfl) ?_)
    have hi := C_lindex (bx ones) (Int.ofNat c.toNat)
    rw [show (Int.ofNat c.toNat).toNat.toUInt8 = c by simp, bx_data] at hi
    refine v_oI hi ?_
    have hz := indexByte_has ones c
    have drop4 : ¬ (has (twos.drop 4) ((c :: t).take 2) = true) := fun h => by cases h
    rw [if_neg drop4]
    by_cases h : hasB ones c = true
    · rw [if_pos (show hasB ones ((c :: t).headD 0) = true from h)]
      refine Ev.yes (decide_eq_true (hz.2 h)) (Ev.yes (by rw [hp1]; rfl) (Ev.of fun m k n => ?_))
      rw [ext_bx]
      rfl
    · rw [if_neg (show ¬ hasB ones ((c :: t).headD 0) = true from h)]
      refine Ev.no (decide_eq_false fun e => h (hz.1 e)) ?_
      exact Ev.of fun m k n => by rw [q79_3_eq]; rfl
  | succ d ih =>
    intro i hi hd
    have hlt : i < twos.length := by show i < 4; omega
    have h2 := ih (i + 1) (by omega) (by omega)
    have hdr : twos.drop i = twos[i] :: twos.drop (i + 1) := List.drop_eq_getElem_cons hlt
    have hlen : twos[i].length = 2 := by
      have : ∀ x ∈ twos, x.length = 2 := by decide
      exact this _ (List.getElem_mem hlt)
    have hat : (strs twos).getD i [] = [D.str (bx twos[i])] := by
      unfold strs
      rw [rows_getD _ _ _ hlt, List.getD_eq_getElem?_getD, List.getElem?_eq_getElem hlt]
      rfl
    refine Ev.step ?_
    simp only [l79_0_eq]
    refine Ev.yes (lt_yes i 4 (by omega)) ?_
    simp only [q79_0_eq, tn, hat]
    refine Ev.yes (in_range i _ (by rw [show (strs twos).length = 4 from rfl]; omega)) ?_
    refine v_oB (C_prefix l twos[i]) ?_
    rw [hdr, hlen]
    by_cases h : l.take 2 = twos[i]'hlt
    · refine Ev.yes (by rw [h]; simp) (Ev.of fun m k n => ?_)
      rw [has_yes _ h, if_pos rfl, h]
      rfl
    · refine Ev.no (by simpa using h) ?_
      rw [has_no _ h]
      simp only [q79_1_eq, wrap_up i (show i < 9223372036854775807 by omega)]
      exact h2
theorem C_sign (l : List UInt8) (hne : l ≠ []) : Cal 79 [V.one (X.d (D.str (bx l)))] [] (RV (V.one (sX (sgn l)))) := by
  refine call79 _ ?_
  simp only [e79_eq]
  exact Ev.diag (L_sign l hne 4 0 (by omega) (by omega))

/-! ### One token -/
theorem C_one (l : List UInt8) (hne : l ≠ []) (hl : l.length ≤ 1000000) : Cal 47 [V.one (X.d (D.str (bx l)))] [] (RV (tokV (tok l))) := by
  obtain ⟨c, t, rfl⟩ : ∃ c t, l = c :: t := by cases l with | nil => exact absurd rfl hne | cons c t => exact ⟨c, t, rfl⟩
  have hp : (true && decide ((0 : Int) < Int.ofNat (bx (c :: t)).size)) = true := by rw [Bool.true_and]; exact decide_eq_true (by rw [bx_size]; simp only [List.length_cons, Int.ofNat_eq_natCast]; omega)
  have hp1 : (true && decide ((1 : Int) ≤ Int.ofNat (bx (c :: t)).size) && true && true) = true := by rw [Bool.true_and, Bool.and_true, Bool.and_true]; exact decide_eq_true (by rw [bx_size]; simp only [List.length_cons, Int.ofNat_eq_natCast]; omega)
  refine call47 _ ?_
  simp only [e47_eq, get_bx0]
  refine Ev.yes hp (v_oB (C_small c) ?_)
  unfold tok
  show Ev _ (RV (tokV (if sm c then _ else if dg c then _ else _)))
  by_cases h1 : sm c = true
  · rw [if_pos h1]
    have hn := takeWhile_len nm (c :: t)
    have hle : ((c :: t).takeWhile nm).length ≤ (c :: t).length := (List.takeWhile_sublist nm).length_le
    refine Ev.yes h1 (Ev.diag (L_word (c :: t) hl _ 0 (by omega) rfl _ ?_))
    have hq := fun (x2 : Int) (s3 : ByteArray) (x4 x5 x6 : Int) => Q_word (x2 := x2) (s3 := s3) (x4 := x4) (x5 := x5) (x6 := x6) (c :: t) ((c :: t).takeWhile nm).length hl hle (by rw [hn]; exact fun x hx => mem_takeWhile nm _ x hx) (by rw [hn, List.takeWhile_cons_of_pos (sm_nm h1)]; simp)
    rw [hn] at hq
    rw [List.drop_zero, Nat.zero_add]
    exact hq _ _ _ _ _
  · rw [if_neg h1]
    refine Ev.no (by simpa using h1) (Ev.yes hp (v_oB (C_digit c) ?_))
    by_cases h2 : dg c = true
    · rw [if_pos h2]
      have hn := takeWhile_len dg (c :: t)
      have hle : ((c :: t).takeWhile dg).length ≤ (c :: t).length := (List.takeWhile_sublist dg).length_le
      refine Ev.yes h2 (Ev.diag (L_digits (c :: t) hl _ 0 (by omega) rfl (by simp) _ ?_))
      have hq := fun (x3 : Int) (s4 : ByteArray) (x5 x6 x7 : Int) => Q_digits (x3 := x3) (s4 := s4) (x5 := x5) (x6 := x6) (x7 := x7) (c :: t) ((c :: t).takeWhile dg).length hle
      rw [List.drop_zero, Nat.zero_add]
      rw [hn] at hq ⊢
      exact hq _ _ _ _ _
    · rw [if_neg h2]
      refine Ev.no (by simpa using h2) ?_
      simp only [q47_8_eq]
      refine v_oS (C_sign (c :: t) (by simp)) ?_
      by_cases h3 : sgn (c :: t) = []
      · rw [if_pos h3, h3]
        refine Ev.no rfl ?_
        simp only [q47_9_eq]
        refine Ev.yes hp1 (Ev.of fun m k n => ?_)
        rw [ext_bx]
        rfl
      · rw [if_neg h3]
        refine Ev.yes ?_ (Ev.ret _)
        rw [bx_data, beqL_eq]
        simpa using h3
end
end Go.Proofs.Ytbmcafehpgimfaa.Ps
