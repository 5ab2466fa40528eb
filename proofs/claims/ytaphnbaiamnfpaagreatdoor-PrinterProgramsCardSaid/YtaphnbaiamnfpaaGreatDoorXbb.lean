/- The text of a type: the printer's and the reference's. The text of a program: the printer's and the reference's. FewTypes: what its yes means. FewProgram answers something, whatever it is handed: its loops. The law of programs' texts: it holds. -/
import Derived.Test.YtaphnbaiamnfpaaGreatDoorXba
import Derived.Test.YtaphnbaiamnfpaaGreatDoorXaa
import Derived.Test.YtaphnbaiamnfpaaGreatDoorPvV
import Derived.Test.YtaphnbaiamnfpaaGreatDoorPvY
namespace Go.Proofs.YtaphnbaiamnfpaaGreatDoor.Ps
set_option linter.unusedVariables false
set_option linter.unusedSimpArgs false
open Go Go.RowKit Px
open Lx (Tok)

theorem C_nilJoin : Cal 54 [V.one (X.nilL 1), V.one (sX [44, 32])] [] (YS []) := by
  refine ⟨1, fun m k n' _ hk _ => ?_⟩
  obtain ⟨k, rfl⟩ : ∃ k', k = k' + 1 := ⟨k - 1, by omega⟩
  refine (lib_step (by kernel_rfl)).trans ?_
  rfl
theorem C_rjoin (l : List (List UInt8)) (hk : l.length ≤ 140737488351232) (hm : (cms l).length ≤ 9223372036854775807) :
    Cal 65 [V.one (X.d (D.list 1 (strs l)))] [] (YS (cms l)) := by
  refine call65_v1 _ ?_
  simp only [e65_v1_eq]
  have key : ∀ (d i : Nat) (acc : List UInt8), i ≤ l.length → l.length - i = d → acc ++ tl i (l.drop i) = cms l → Ev (fun m k n => l65_0_v1 m (Ak k) n (strs l) (bx acc) (Int.ofNat i)) (YS (cms l)) := by
    intro d
    induction d with
    | zero =>
      intro i acc hi hd h
      rw [List.drop_eq_nil_of_le (by omega), tl_nil, List.append_nil] at h
      subst h
      refine Ev.step ?_
      simp only [l65_0_v1_eq, strs_len']
      exact Ev.no (lt_no i _ (by omega)) (Ev.of fun m k n => by rw [q65_3_eq])
    | succ d ih =>
      intro i acc hi hd h
      have hlt : i < l.length := by omega
      rw [List.drop_eq_getElem_cons hlt, tl_cons, ← List.append_assoc, ← List.append_assoc] at h
      have hl := congrArg List.length h
      simp only [List.length_append] at hl
      have nx := ih (i + 1) (acc ++ sep i ++ l[i]) (by omega) (by omega) h
      refine Ev.step ?_
      simp only [l65_0_v1_eq, strs_len']
      refine Ev.yes (lt_yes i _ hlt) ?_
      simp only [q65_0_v1_eq]
      have mid : Ev (fun m k n => q65_1_v1 (Ak k) m n (strs l) (bx (acc ++ sep i)) (Int.ofNat i)) (YS (cms l)) := by
        have hat := strs_at' l i hlt
        unfold dat at hat
        simp only [q65_1_v1_eq, tn, hat, strs_len', D.bytes]
        refine Ev.yes (in_range i _ hlt) (Ev.yes rfl (Ev.yes (ble_t (by simp only [bx_size, List.length_append]; omega)) ?_))
        simp only [q65_2_eq, wrap_up i (show i < 9223372036854775807 by omega), bx_append]
        exact nx
      by_cases h0 : i = 0
      · subst h0
        refine Ev.no rfl ?_
        simpa only [sep, if_true, List.append_nil] using mid
      · refine Ev.yes (decide_eq_true (by show (0 : Int) < Int.ofNat i; simp only [Int.ofNat_eq_natCast]; omega)) ?_
        have hs : sep i = [44, 32] := if_neg h0
        rw [hs] at hl mid
        simp only [List.length_cons, List.length_nil] at hl
        refine Ev.yes (ble_t (by simp only [bx_size]; omega)) ?_
        simp only [lit, bx_append]
        exact mid
  exact Ev.diag' (key _ 0 [] (Nat.zero_le _) rfl (by rw [List.drop_zero]; rfl))
theorem C_tt : ∀ (d : Nat) (t : T), rightT d t = true → (tT t).length ≤ 1000000 → Cal 23 [tV t] [] (YS (tT t))
  | 0, .mk .., h, _ => by rw [rightT] at h; cases h
  | d + 1, .mk k l, h, hm => by
    rw [rightT, Bool.and_eq_true] at h
    have hr := rightTs_mem h.2
    have h1 := h.1
    have hl4 : l.length ≤ 4 := by
      revert h1
      split
      · intro h; rw [List.isEmpty_iff.1 h]; decide
      split
      · intro h; rw [Bool.and_eq_true, decide_eq_true_eq, decide_eq_true_eq] at h; exact h.2
      split
      · intro h; rw [decide_eq_true_eq] at h; omega
      · intro h; cases h
    have hd1 : (k = 1 ∨ k = 2) ↔ l = [] := by
      revert h1
      split
      · rename_i hk; intro h; exact ⟨fun _ => List.isEmpty_iff.1 h, fun _ => hk⟩
      rename_i hk
      split
      · intro hz2
        refine ⟨fun h => absurd h hk, fun h => ?_⟩
        subst h; simp at hz2
      split
      · intro hz2
        refine ⟨fun h => absurd h hk, fun h => ?_⟩
        subst h; simp at hz2
      · intro h; cases h
    refine call23 _ _ ?_
    simp only [e23_eq, T.rows_len]
    have IH : ∀ x ∈ l, (tT x).length ≤ (tT (.mk k l)).length → Cal 23 [tV x] [] (YS (tT x)) := fun x hx hlx => C_tt d x (hr x hx) (Nat.le_trans hlx hm)
    have kid : ∀ x ∈ l, (tT x).length ≤ (tT (.mk k l)).length := fun x hx => by
      have := cms_mem (l.map tT) (tT x) (List.mem_map_of_mem hx)
      have hne : ¬ (k = 1 ∨ k = 2) := fun e => by rw [hd1.1 e] at hx; cases hx
      rw [tT_mk, if_neg (fun e => hne (.inl e)), if_neg (fun e => hne (.inr e))]
      split <;> (simp only [List.length_append]; omega)
    have last : l ≠ [] → Ev (fun _ k' n => q23_2_v1 (Ak k') n (strs (l.map tT)) k (T.rows l)) (YS (tT (.mk k l))) := fun hne => by
      have hk : ¬ (k = 1 ∨ k = 2) := fun e => hne (hd1.1 e)
      have k1 : k ≠ 1 := fun e => hk (.inl e)
      have k2 : k ≠ 2 := fun e => hk (.inr e)
      have k34 : k = 3 ∨ k = 4 := by
        rw [if_neg hk] at h1
        by_cases k3 : k = 3
        · exact .inl k3
        · rw [if_neg k3] at h1
          by_cases k4 : k = 4
          · exact .inr k4
          · rw [if_neg k4] at h1; cases h1
      rw [tT_mk, if_neg k1, if_neg k2] at hm ⊢
      simp only [q23_2_v1_eq, i_beq]
      have hc : (cms (l.map tT)).length ≤ 1000000 := by
        revert hm
        split <;> (simp only [List.length_append]; omega)
      refine v_oS (C_join _ (by rw [List.length_map]; omega) (by omega)) ?_
      refine Ev.no (decide_eq_false k1) (Ev.no (decide_eq_false k2) ?_)
      rcases k34 with rfl | rfl
      · refine Ev.yes rfl (Ev.yes (ble_t (by simp only [bx_size]; omega)) (Ev.yes (ble_t (by simp only [lit, bx_append, bx_size, List.length_append, List.length_cons, List.length_nil]; omega)) (Ev.rs ?_)))
        simp only [lit, bx_append, if_true]
      · refine Ev.no rfl (Ev.yes rfl (Ev.yes (ble_t (by simp only [bx_size]; omega)) (Ev.yes (ble_t (by simp only [lit, bx_append, bx_size, List.length_append, List.length_cons, List.length_nil]; omega)) (Ev.rs ?_))))
        rw [if_neg (by decide)]
        simp only [lit, bx_append]
    have loop : ∀ (z i : Nat), 0 < i → i ≤ l.length → l.length - i = z → Ev (fun m k' n => l23_0_v1 m (Ak k') n (strs ((l.take i).map tT)) (T.rows l) (Int.ofNat l.length) (Int.ofNat i) k (T.rows l)) (YS (tT (.mk k l))) := by
      intro z
      induction z with
      | zero =>
        intro i hp hi hz
        obtain rfl : i = l.length := by omega
        refine Ev.step ?_
        simp only [l23_0_v1_eq, T.rows_len]
        refine Ev.no (lt_no _ _ (Nat.le_refl _)) ?_
        rw [List.take_length]
        exact Ev.diag' (F := fun m k' n => q23_2_v1 (Ak k') n (strs (l.map tT)) k (T.rows l)) (last fun e => by rw [e] at hp; exact absurd hp (by simp))
      | succ z ih =>
        intro i hp hi hz
        have hlt : i < l.length := by omega
        have nx := ih (i + 1) (by omega) (by omega) (by omega)
        rw [List.take_succ_eq_append_getElem hlt, List.map_append, List.map_cons, List.map_nil, strs_app] at nx
        refine Ev.step ?_
        simp only [l23_0_v1_eq, T.rows_len]
        refine Ev.yes (lt_yes i _ hlt) ?_
        simp only [q23_0_v1_eq, tn, T.rows_at l i hlt, T.row_eq, T.rows_len]
        refine Ev.yes (in_range i _ hlt) (v_oS (IH _ (List.getElem_mem hlt) (kid _ (List.getElem_mem hlt))) ?_)
        refine Ev.yes (by rw [strs_len', List.length_map, List.length_take]; exact room (min i l.length) 17 (by omega) (by omega)) ?_
        simp only [q23_1_eq, wrap_up i (show i < 9223372036854775807 by omega)]
        exact nx
    have first : Ev (fun m k' n => l23_0 m (Ak k') n (T.rows l) (Int.ofNat l.length) 0 k (T.rows l)) (YS (tT (.mk k l))) := by
      refine Ev.step ?_
      simp only [l23_0_eq, T.rows_len]
      by_cases h0 : 0 < l.length
      · have nx := loop _ 1 (by omega) (by omega) rfl
        rw [List.take_succ_eq_append_getElem h0, List.take_zero, List.nil_append, List.map_cons, List.map_nil] at nx
        refine Ev.yes (lt_yes 0 _ h0) ?_
        have hat := T.rows_at l 0 h0
        simp only [q23_0_eq, show Int.toNat 0 = 0 from rfl, hat, T.row_eq, T.rows_len]
        refine Ev.yes (in_range 0 _ h0) (v_oS (IH _ (List.getElem_mem h0) (kid _ (List.getElem_mem h0))) ?_)
        simp only [q23_1_eq, show IntKind.wrap .i64 (0 + 1) = Int.ofNat 1 from wrap_up 0 (by decide)]
        exact nx
      · have hn : l = [] := List.eq_nil_of_length_eq_zero (by omega)
        have hk := hd1.2 hn
        subst hn
        refine Ev.no rfl ?_
        rw [tT_mk]
        simp only [q23_2_eq, i_beq]
        refine v_oS C_nilJoin ?_
        rcases hk with rfl | rfl
        · rw [if_pos rfl]
          exact Ev.yes rfl (Ev.ret _)
        · rw [if_neg (by decide), if_pos rfl]
          exact Ev.no rfl (Ev.yes rfl (Ev.ret _))
    exact Ev.diag' first
theorem C_rtt : ∀ (d : Nat) (t : T), rightT d t = true → (tT t).length ≤ 1000000 → Cal 28 [tV t] [] (YS (tT t))
  | 0, .mk .., h, _ => by rw [rightT] at h; cases h
  | d + 1, .mk k l, h, hm => by
    rw [rightT, Bool.and_eq_true] at h
    have hr := rightTs_mem h.2
    have h1 := h.1
    have hl4 : l.length ≤ 4 := by
      revert h1
      split
      · intro h; rw [List.isEmpty_iff.1 h]; decide
      split
      · intro h; rw [Bool.and_eq_true, decide_eq_true_eq, decide_eq_true_eq] at h; exact h.2
      split
      · intro h; rw [decide_eq_true_eq] at h; omega
      · intro h; cases h
    have hd1 : (k = 1 ∨ k = 2) ↔ l = [] := by
      revert h1
      split
      · rename_i hk; intro h; exact ⟨fun _ => List.isEmpty_iff.1 h, fun _ => hk⟩
      rename_i hk
      split
      · intro hz2
        refine ⟨fun h => absurd h hk, fun h => ?_⟩
        subst h; simp at hz2
      split
      · intro hz2
        refine ⟨fun h => absurd h hk, fun h => ?_⟩
        subst h; simp at hz2
      · intro h; cases h
    refine call28 _ _ ?_
    simp only [e28_eq]
    have IH : ∀ x ∈ l, (tT x).length ≤ (tT (.mk k l)).length → Cal 28 [tV x] [] (YS (tT x)) := fun x hx hlx => C_rtt d x (hr x hx) (Nat.le_trans hlx hm)
    have kid : ∀ x ∈ l, (tT x).length ≤ (tT (.mk k l)).length := fun x hx => by
      have := cms_mem (l.map tT) (tT x) (List.mem_map_of_mem hx)
      have hne : ¬ (k = 1 ∨ k = 2) := fun e => by rw [hd1.1 e] at hx; cases hx
      rw [tT_mk, if_neg (fun e => hne (.inl e)), if_neg (fun e => hne (.inr e))]
      split <;> (simp only [List.length_append]; omega)
    have last : l ≠ [] → Ev (fun _ k' n => q28_2_v1 (Ak k') n (strs (l.map tT)) k (T.rows l)) (YS (tT (.mk k l))) := fun hne => by
      have hk : ¬ (k = 1 ∨ k = 2) := fun e => hne (hd1.1 e)
      have k1 : k ≠ 1 := fun e => hk (.inl e)
      have k2 : k ≠ 2 := fun e => hk (.inr e)
      have k34 : k = 3 ∨ k = 4 := by
        rw [if_neg hk] at h1
        by_cases k3 : k = 3
        · exact .inl k3
        · rw [if_neg k3] at h1
          by_cases k4 : k = 4
          · exact .inr k4
          · rw [if_neg k4] at h1; cases h1
      rw [tT_mk, if_neg k1, if_neg k2] at hm ⊢
      simp only [q28_2_v1_eq, i_beq]
      have hc : (cms (l.map tT)).length ≤ 1000000 := by
        revert hm
        split <;> (simp only [List.length_append]; omega)
      have J := C_rjoin (l.map tT) (by rw [List.length_map]; omega) (by omega)
      refine Ev.no (decide_eq_false k1) (Ev.no (decide_eq_false k2) ?_)
      rcases k34 with rfl | rfl
      · refine Ev.yes rfl (v_oS J (Ev.yes (ble_t (by simp only [bx_size]; omega)) (Ev.yes (ble_t (by simp only [lit, bx_append, bx_size, List.length_append, List.length_cons, List.length_nil]; omega)) (Ev.rs ?_))))
        simp only [lit, bx_append, if_true]
      · refine Ev.no rfl (Ev.yes rfl (v_oS J (Ev.yes (ble_t (by simp only [bx_size]; omega)) (Ev.yes (ble_t (by simp only [lit, bx_append, bx_size, List.length_append, List.length_cons, List.length_nil]; omega)) (Ev.rs ?_)))))
        rw [if_neg (by decide)]
        simp only [lit, bx_append]
    have loop : ∀ (z i : Nat), 0 < i → i ≤ l.length → l.length - i = z → Ev (fun m k' n => l28_0_v1 m (Ak k') n (strs ((l.take i).map tT)) (Int.ofNat i) k (T.rows l)) (YS (tT (.mk k l))) := by
      intro z
      induction z with
      | zero =>
        intro i hp hi hz
        obtain rfl : i = l.length := by omega
        refine Ev.step ?_
        simp only [l28_0_v1_eq, T.rows_len]
        refine Ev.no (lt_no _ _ (Nat.le_refl _)) ?_
        rw [List.take_length]
        exact Ev.diag' (F := fun m k' n => q28_2_v1 (Ak k') n (strs (l.map tT)) k (T.rows l)) (last fun e => by rw [e] at hp; exact absurd hp (by simp))
      | succ z ih =>
        intro i hp hi hz
        have hlt : i < l.length := by omega
        have nx := ih (i + 1) (by omega) (by omega) (by omega)
        rw [List.take_succ_eq_append_getElem hlt, List.map_append, List.map_cons, List.map_nil, strs_app] at nx
        refine Ev.step ?_
        simp only [l28_0_v1_eq, T.rows_len]
        refine Ev.yes (lt_yes i _ hlt) ?_
        simp only [q28_0_v1_eq, tn, T.rows_at l i hlt, T.row_eq, T.rows_len]
        refine Ev.yes (in_range i _ hlt) (v_oS (IH _ (List.getElem_mem hlt) (kid _ (List.getElem_mem hlt))) ?_)
        refine Ev.yes (by rw [strs_len', List.length_map, List.length_take]; exact room (min i l.length) 17 (by omega) (by omega)) ?_
        simp only [q28_1_eq, wrap_up i (show i < 9223372036854775807 by omega)]
        exact nx
    have first : Ev (fun m k' n => l28_0 m (Ak k') n 0 k (T.rows l)) (YS (tT (.mk k l))) := by
      refine Ev.step ?_
      simp only [l28_0_eq, T.rows_len]
      by_cases h0 : 0 < l.length
      · have nx := loop _ 1 (by omega) (by omega) rfl
        rw [List.take_succ_eq_append_getElem h0, List.take_zero, List.nil_append, List.map_cons, List.map_nil] at nx
        refine Ev.yes (lt_yes 0 _ h0) ?_
        have hat := T.rows_at l 0 h0
        simp only [q28_0_eq, show Int.toNat 0 = 0 from rfl, hat, T.row_eq, T.rows_len]
        refine Ev.yes (in_range 0 _ h0) (v_oS (IH _ (List.getElem_mem h0) (kid _ (List.getElem_mem h0))) ?_)
        simp only [q28_1_eq, show IntKind.wrap .i64 (0 + 1) = Int.ofNat 1 from wrap_up 0 (by decide)]
        exact nx
      · have hn : l = [] := List.eq_nil_of_length_eq_zero (by omega)
        have hk := hd1.2 hn
        subst hn
        refine Ev.no rfl ?_
        rw [tT_mk]
        simp only [q28_2_eq, i_beq]
        rcases hk with rfl | rfl
        · rw [if_pos rfl]
          exact Ev.yes rfl (Ev.ret _)
        · rw [if_neg (by decide), if_pos rfl]
          exact Ev.no rfl (Ev.yes rfl (Ev.ret _))
    exact Ev.diag' first
end Go.Proofs.YtaphnbaiamnfpaaGreatDoor.Ps
namespace Go.Proofs.YtaphnbaiamnfpaaGreatDoor.Ps
set_option linter.unusedVariables false
set_option linter.unusedSimpArgs false
set_option maxRecDepth 4000
open Go Go.RowKit Px
open Lx (Tok)

def trim (s : List UInt8) : List UInt8 × Int := if 20000 < s.length then ([], 2) else (s, 0)
def prP (p : Pg) : List UInt8 × Int := if rightP p = true then trim (tP p) else ([], 1)
theorem C_rfield (f : Fld) (h : rightF f = true) (hw : wT f.typ ≤ 100000) : Cal 27 [fdV f] [] (YS (tF f)) := by
  have hh := h
  unfold rightF at hh
  rw [Bool.and_eq_true] at hh
  have h1 := isName_len hh.1
  have h2 := type_len 40 _ hh.2
  refine call27 _ _ _ _ _ ?_
  simp only [e27_eq]
  refine Ev.yes (ble_t (by simp only [bx_size]; omega)) (v_oS (C_rtt 40 f.typ hh.2 (by omega)) (Ev.yes (ble_t (by simp only [lit, bx_append, bx_size, List.length_append, List.length_cons, List.length_nil]; omega)) (Ev.rs ?_)))
  simp only [lit, bx_append, tF]
theorem tt_of {f : Fld} (h : rightF f = true) (hw : wT f.typ ≤ 100000) : Cal 23 [tV f.typ] [] (YS (tT f.typ)) ∧ (tT f.typ).length ≤ 1000000 ∧ f.name.length ≤ 24 := by
  unfold rightF at h
  rw [Bool.and_eq_true] at h
  have h1 := isName_len h.1
  have h2 := type_len 40 _ h.2
  exact ⟨C_tt 40 f.typ h.2 (by omega), by omega, h1⟩
section
variable (p : Pg) (h : LenP p) (hr : rightP p = true) (m : Mild p)
include h hr m
theorem C_rProgram : Cal 9 [pV p] [] (RV (prV (trim (tP p)))) := by
  have hlen := prog_len hr m
  have hrr := hr
  unfold rightP at hrr
  simp only [Bool.and_eq_true, List.all_eq_true] at hrr
  obtain ⟨⟨h1, h2⟩, h3⟩ := hrr
  have il := m.il
  have fl := m.fl
  refine call9 _ _ _ _ _ _ _ _ _ _ ?_
  simp only [e9_eq]
  refine v_oB (C_rRight p h) ?_
  rw [hr]
  refine Ev.no rfl ?_
  generalize hW : tP p = whole at hlen ⊢
  have last : ∀ acc, acc ++ tE p.query ++ [10] = whole → Ev (fun _ k n => q9_10 (Ak k) n (bx acc) (Fld.rows p.inputs) (Fnc.rows p.funs) p.query.k p.query.n (bx p.query.name) (strs p.query.names) (ints p.query.odds) (E.rows p.query.kids) p.query.line p.query.col) (RV (prV (trim whole))) := fun acc ha => by
    have hl := congrArg List.length ha
    simp only [List.length_append, List.length_cons, List.length_nil] at hl
    simp only [q9_10_eq]
    refine v_oS (C_rtext 40 p.query h3 h.query (by omega)) (Ev.yes (ble_t (by simp only [bx_size]; omega)) (Ev.yes (ble_t (by simp only [lit, bx_append, bx_size, List.length_append, List.length_cons, List.length_nil]; omega)) ?_))
    simp only [lit, bx_append, bx_size]
    rw [ha]
    unfold trim
    by_cases hc : 20000 < whole.length
    · rw [if_pos hc]
      exact Ev.yes (decide_eq_true (by show (20000 : Int) < Int.ofNat _; simp only [Int.ofNat_eq_natCast]; omega)) (Ev.ret _)
    · rw [if_neg hc]
      refine Ev.no (decide_eq_false (by show ¬ (20000 : Int) < Int.ofNat _; simp only [Int.ofNat_eq_natCast]; omega)) ?_
      exact Ev.of fun m k n => by rw [q9_11_eq]
  have funs : ∀ (d i : Nat) (acc : List UInt8), i ≤ p.funs.length → p.funs.length - i = d → acc ++ tFns (p.funs.drop i) ++ tE p.query ++ [10] = whole →
      Ev (fun m k n => l9_1 m (Ak k) n (bx acc) (Int.ofNat i) (Fld.rows p.inputs) (Fnc.rows p.funs) p.query.k p.query.n (bx p.query.name) (strs p.query.names) (ints p.query.odds) (E.rows p.query.kids) p.query.line p.query.col) (RV (prV (trim whole))) := by
    intro d
    induction d with
    | zero =>
      intro i acc hi hd ha
      rw [List.drop_eq_nil_of_le (by omega), tFns, List.append_nil] at ha
      refine Ev.step ?_
      simp only [l9_1_eq, Fnc.rows_len]
      exact Ev.no (lt_no i _ (by omega)) (Ev.diag' (last acc ha))
    | succ d ih =>
      intro i acc hi hd ha
      have hlt : i < p.funs.length := by omega
      obtain ⟨g, hg⟩ : ∃ g, g = p.funs[i] := ⟨_, rfl⟩
      have hgm : g ∈ p.funs := by rw [hg]; exact List.getElem_mem hlt
      have hgr := h2 g hgm
      unfold rightFn at hgr
      simp only [Bool.and_eq_true, List.all_eq_true] at hgr
      have hgl := h.fn g hgm
      have pl := m.par g hgm
      have b2 := type_len 40 _ hgr.1.2
      have b4 := m.res g hgm
      rw [List.drop_eq_getElem_cons hlt, ← hg, tFns] at ha
      have hl := congrArg List.length ha
      simp only [tFn, List.length_append, List.length_cons, List.length_nil] at hl
      refine Ev.step ?_
      simp only [l9_1_eq, Fnc.rows_len]
      refine Ev.yes (lt_yes i _ hlt) ?_
      simp only [q9_4_eq, tn, Fnc.rows_at p.funs i hlt, ← hg, Fnc.row_eq, List.getD_cons_succ, List.getD_cons_zero, Fnc.rows_len, D.bytes]
      refine Ev.yes (in_range i _ hlt) (Ev.yes (ble_t (by simp only [bx_size]; omega)) (Ev.yes rfl (Ev.yes (ble_t (by simp only [lit, bx_append, bx_size, List.length_append, List.length_cons, List.length_nil]; omega)) (Ev.yes (ble_t (by simp only [lit, bx_append, bx_size, List.length_append, List.length_cons, List.length_nil]; omega)) ?_))))
      simp only [lit, bx_append]
      have pars : ∀ (d j : Nat) (c : List UInt8), j ≤ g.params.length → g.params.length - j = d → c ++ tl j ((g.params.drop j).map tF) = acc ++ [102, 117, 110, 32] ++ g.name ++ [40] ++ cms (g.params.map tF) →
          Ev (fun m k n => l9_2 m (Ak k) (m + j) n (bx c) (Int.ofNat i) (Int.ofNat j) (Fld.rows p.inputs) (Fnc.rows p.funs) p.query.k p.query.n (bx p.query.name) (strs p.query.names) (ints p.query.odds) (E.rows p.query.kids) p.query.line p.query.col (D.str (bx g.name)) (D.list 5 (Fld.rows g.params)) (D.int .i64 g.res.k) (D.list 2 (T.rows g.res.l)) (D.int .i64 g.body.k) (D.int .i64 g.body.n) (D.str (bx g.body.name)) (D.list 1 (strs g.body.names)) (D.list 1 (ints g.body.odds)) (D.list 8 (E.rows g.body.kids)) (D.int .i64 g.body.line) (D.int .i64 g.body.col) (D.int .i64 g.line) (D.int .i64 g.col)) (RV (prV (trim whole))) := by
        intro d
        induction d with
        | zero =>
          intro j c hj hd hc
          rw [List.drop_eq_nil_of_le (by omega), List.map_nil, tl_nil, List.append_nil] at hc
          subst hc
          refine Ev.step ?_
          simp only [l9_2_eq, drows', Fld.rows_len]
          refine Ev.yes rfl (Ev.no (lt_no j _ (by omega)) ?_)
          have fin : Ev (fun m k n => q9_8 (Ak k) m n (bx (acc ++ [102, 117, 110, 32] ++ g.name ++ [40] ++ cms (g.params.map tF))) (Int.ofNat i) (Fld.rows p.inputs) (Fnc.rows p.funs) p.query.k p.query.n (bx p.query.name) (strs p.query.names) (ints p.query.odds) (E.rows p.query.kids) p.query.line p.query.col (D.str (bx g.name)) (D.list 5 (Fld.rows g.params)) (D.int .i64 g.res.k) (D.list 2 (T.rows g.res.l)) (D.int .i64 g.body.k) (D.int .i64 g.body.n) (D.str (bx g.body.name)) (D.list 1 (strs g.body.names)) (D.list 1 (ints g.body.odds)) (D.list 8 (E.rows g.body.kids)) (D.int .i64 g.body.line) (D.int .i64 g.body.col) (D.int .i64 g.line) (D.int .i64 g.col)) (RV (prV (trim whole))) := by
            simp only [q9_8_eq]
            refine Ev.yes (ble_t (by simp only [lit, bx_append, bx_size, List.length_append, List.length_cons, List.length_nil]; omega)) (v_oS (C_rtt 40 g.res hgr.1.2 (by omega)) (Ev.yes (ble_t (by simp only [lit, bx_append, bx_size, List.length_append, List.length_cons, List.length_nil]; omega)) (Ev.yes (ble_t (by simp only [lit, bx_append, bx_size, List.length_append, List.length_cons, List.length_nil]; omega)) (v_oS (C_rtext 40 g.body hgr.2 hgl.body (by omega)) (Ev.yes (ble_t (by simp only [lit, bx_append, bx_size, List.length_append, List.length_cons, List.length_nil]; omega)) (Ev.yes (ble_t (by simp only [lit, bx_append, bx_size, List.length_append, List.length_cons, List.length_nil]; omega)) ?_))))))
            simp only [q9_9_eq, wrap_up i (show i < 9223372036854775807 by omega), lit, bx_append]
            refine ih (i + 1) _ (by omega) (by omega) ?_
            rw [← ha]
            simp only [tFn, List.append_assoc]
          exact Ev.of_eq (fun m k n => by rw [Nat.add_assoc m 1]) (fin.shift (1 + j))
        | succ d ihj =>
          intro j c hj hd hc
          have hjt : j < g.params.length := by omega
          have hfm := List.getElem_mem hjt
          rw [List.drop_eq_getElem_cons hjt, List.map_cons, tl_cons, ← List.append_assoc, ← List.append_assoc] at hc
          have hlc := congrArg List.length hc
          simp only [List.length_append, List.length_cons, List.length_nil] at hlc
          have nx := ihj (j + 1) (c ++ sep j ++ tF g.params[j]) (by omega) (by omega) hc
          refine Ev.step ?_
          simp only [l9_2_eq, drows', Fld.rows_len]
          refine Ev.yes rfl (Ev.yes (lt_yes j _ hjt) ?_)
          simp only [q9_5_eq]
          have mid : Ev (fun m k n => q9_6 (Ak k) m (m + 1 + j) n (bx (c ++ sep j)) (Int.ofNat i) (Int.ofNat j) (Fld.rows p.inputs) (Fnc.rows p.funs) p.query.k p.query.n (bx p.query.name) (strs p.query.names) (ints p.query.odds) (E.rows p.query.kids) p.query.line p.query.col (D.str (bx g.name)) (D.list 5 (Fld.rows g.params)) (D.int .i64 g.res.k) (D.list 2 (T.rows g.res.l)) (D.int .i64 g.body.k) (D.int .i64 g.body.n) (D.str (bx g.body.name)) (D.list 1 (strs g.body.names)) (D.list 1 (ints g.body.odds)) (D.list 8 (E.rows g.body.kids)) (D.int .i64 g.body.line) (D.int .i64 g.body.col) (D.int .i64 g.line) (D.int .i64 g.col)) (RV (prV (trim whole))) := by
            simp only [q9_6_eq, tn, drows', Fld.rows_at g.params j hjt, Fld.row_eq, Fld.rows_len, List.getD_cons_succ, List.getD_cons_zero]
            refine Ev.yes rfl (Ev.yes (in_range j _ hjt) (v_oS (C_rfield g.params[j] (hgr.1.1.1 _ hfm) (m.typ g hgm _ hfm)) (Ev.yes (ble_t (by simp only [bx_size, List.length_append]; omega)) ?_)))
            simp only [q9_7_eq, wrap_up j (show j < 9223372036854775807 by omega), bx_append]
            exact Ev.of_eq (fun m k n => by rw [Nat.add_assoc m 1 j, Nat.add_comm 1 j]) nx
          by_cases h0 : j = 0
          · subst h0
            refine Ev.no rfl ?_
            simpa only [sep, if_true, List.append_nil] using mid
          · refine Ev.yes (decide_eq_true (by show (0 : Int) < Int.ofNat j; simp only [Int.ofNat_eq_natCast]; omega)) ?_
            have hs : sep j = [44, 32] := if_neg h0
            rw [hs] at hlc mid
            simp only [List.length_cons, List.length_nil] at hlc
            refine Ev.yes (ble_t (by simp only [bx_size]; omega)) ?_
            simp only [lit, bx_append]
            exact mid
      have key := pars _ 0 (acc ++ [102, 117, 110, 32] ++ g.name ++ [40]) (Nat.zero_le _) rfl (by rw [List.drop_zero]; rfl)
      exact key
  have ins : ∀ (d i : Nat) (acc : List UInt8), i ≤ p.inputs.length → p.inputs.length - i = d → acc ++ tIs (p.inputs.drop i) ++ tFns p.funs ++ tE p.query ++ [10] = whole →
      Ev (fun m k n => l9_0 m (Ak k) n (bx acc) (Int.ofNat i) (Fld.rows p.inputs) (Fnc.rows p.funs) p.query.k p.query.n (bx p.query.name) (strs p.query.names) (ints p.query.odds) (E.rows p.query.kids) p.query.line p.query.col) (RV (prV (trim whole))) := by
    intro d
    induction d with
    | zero =>
      intro i acc hi hd ha
      rw [List.drop_eq_nil_of_le (by omega), tIs, List.append_nil] at ha
      refine Ev.step ?_
      simp only [l9_0_eq, Fld.rows_len]
      refine Ev.no (lt_no i _ (by omega)) ?_
      simp only [q9_3_eq]
      exact Ev.diag' (funs _ 0 acc (Nat.zero_le _) rfl (by rw [List.drop_zero]; exact ha))
    | succ d ih =>
      intro i acc hi hd ha
      have hlt : i < p.inputs.length := by omega
      have hfm := List.getElem_mem hlt
      rw [List.drop_eq_getElem_cons hlt, tIs] at ha
      have hl := congrArg List.length ha
      simp only [tI, List.length_append, List.length_cons, List.length_nil] at hl
      refine Ev.step ?_
      simp only [l9_0_eq, Fld.rows_len]
      refine Ev.yes (lt_yes i _ hlt) ?_
      simp only [q9_1_eq, tn, Fld.rows_at p.inputs i hlt, Fld.row_eq, List.getD_cons_succ, List.getD_cons_zero, Fld.rows_len]
      refine Ev.yes (ble_t (by simp only [bx_size]; omega)) (Ev.yes (in_range i _ hlt) (v_oS (C_rfield p.inputs[i] (h1 _ hfm) (m.inp _ hfm)) (Ev.yes (ble_t (by simp only [lit, bx_append, bx_size, List.length_append, List.length_cons, List.length_nil]; omega)) (Ev.yes (ble_t (by simp only [lit, bx_append, bx_size, List.length_append, List.length_cons, List.length_nil]; omega)) ?_))))
      simp only [q9_2_eq, wrap_up i (show i < 9223372036854775807 by omega), lit, bx_append]
      refine ih (i + 1) _ (by omega) (by omega) ?_
      rw [← ha]
      simp only [tI, List.append_assoc]
  simp only [q9_0_eq]
  refine Ev.diag' (ins _ 0 [] (Nat.zero_le _) rfl ?_)
  rw [List.drop_zero, ← hW]
  rfl
theorem C_pProgram : Cal 8 [pV p] [] (RV (prV (trim (tP p)))) := by
  have hrr := hr
  unfold rightP at hrr
  simp only [Bool.and_eq_true, List.all_eq_true] at hrr
  obtain ⟨⟨h1, h2⟩, h3⟩ := hrr
  have il := m.il
  have fl := m.fl
  refine call8 _ _ _ _ _ _ _ _ _ _ ?_
  simp only [e8_eq]
  refine v_oB (C_Right p h) ?_
  rw [hr]
  refine Ev.no rfl ?_
  generalize hW : tP p = whole
  have last : ∀ acc b, W [] acc b → acc ++ tE p.query ++ [10] = whole → Ev (fun _ k n => q8_10 (Ak k) n (Fld.rows p.inputs) (Fnc.rows p.funs) p.query.k p.query.n (bx p.query.name) (strs p.query.names) (ints p.query.odds) (E.rows p.query.kids) p.query.line p.query.col (bytesR b)) (RV (prV (trim whole))) := fun acc b hb ha => by
    obtain ⟨b1, w1, e1⟩ := C_wx 40 p.query h3 h.query 0 b (by omega)
    rw [tAt_zero] at w1
    obtain ⟨b2, w2, e2⟩ := C_put [[10]] b1 ⟨by decide, trivial⟩ (Nat.le_of_ble_eq_true rfl)
    have hb2 := ((hb.seq w1).seq w2).done
    have hs : acc ++ tE p.query ++ [[10]].flatten = whole := ha
    rw [hs] at hb2
    simp only [q8_10_eq]
    refine v_n_FO5x1 e1 (v_n_FO5x1 e2 ?_)
    unfold trim
    by_cases hlen : 20000 < b2.length
    · rw [if_pos (hb2.2 hlen)]
      exact w_t2oSoI_FJ5x1 (C_told_long b2 hlen) (Ev.ret _)
    · have := hb2.1 (by omega)
      subst this
      rw [if_neg hlen]
      exact v_t2oSoI_FJ5x1 (C_told_short _ (by omega) (by rw [← hs]; simp)) (Ev.ret _)
  have funs : ∀ (d i : Nat) (acc b : List UInt8), i ≤ p.funs.length → p.funs.length - i = d → W [] acc b → acc ++ tFns (p.funs.drop i) ++ tE p.query ++ [10] = whole →
      Ev (fun m k n => l8_1 m (Ak k) n (Fnc.rows p.funs) (Int.ofNat p.funs.length) (Int.ofNat i) (Fld.rows p.inputs) (Fnc.rows p.funs) p.query.k p.query.n (bx p.query.name) (strs p.query.names) (ints p.query.odds) (E.rows p.query.kids) p.query.line p.query.col (bytesR b)) (RV (prV (trim whole))) := by
    intro d
    induction d with
    | zero =>
      intro i acc b hi hd hb ha
      rw [List.drop_eq_nil_of_le (by omega), tFns, List.append_nil] at ha
      refine Ev.step ?_
      simp only [l8_1_eq]
      exact Ev.no (lt_no i _ (by omega)) (Ev.diag' (last acc b hb ha))
    | succ d ih =>
      intro i acc b hi hd hb ha
      have hlt : i < p.funs.length := by omega
      obtain ⟨g, hg⟩ : ∃ g, g = p.funs[i] := ⟨_, rfl⟩
      have hgm : g ∈ p.funs := by rw [hg]; exact List.getElem_mem hlt
      have hgr := h2 g hgm
      unfold rightFn at hgr
      simp only [Bool.and_eq_true, List.all_eq_true] at hgr
      have hgl := h.fn g hgm
      have pl := m.par g hgm
      have b1 := isName_len hgr.1.1.2
      have b2 := type_len 40 _ hgr.1.2
      have b4 := m.res g hgm
      rw [List.drop_eq_getElem_cons hlt, ← hg, tFns] at ha
      refine Ev.step ?_
      simp only [l8_1_eq]
      refine Ev.yes (lt_yes i _ hlt) ?_
      simp only [q8_4_eq, tn, Fnc.rows_at p.funs i hlt, ← hg, Fnc.row_eq, List.getD_cons_succ, List.getD_cons_zero, Fnc.rows_len, drows', Fld.rows_len]
      obtain ⟨c1, w1, e1⟩ := C_put [[102, 117, 110, 32], g.name, [40]] b ⟨by decide, by omega, by decide, trivial⟩ (Nat.le_of_ble_eq_true rfl)
      refine Ev.yes (in_range i _ hlt) (v_n_FO5x1 e1 (Ev.yes rfl ?_))
      have pars : ∀ (d j : Nat) (s c : List UInt8), j ≤ g.params.length → g.params.length - j = d → W [] s c → s ++ tl j ((g.params.drop j).map tF) = acc ++ [102, 117, 110, 32] ++ g.name ++ [40] ++ cms (g.params.map tF) →
          Ev (fun m k n => l8_2 m (Ak k) (m + j) n (Fnc.rows p.funs) (Int.ofNat p.funs.length) (Int.ofNat i) (D.list 5 (Fld.rows g.params)) (Int.ofNat g.params.length) (Int.ofNat j) (Fld.rows p.inputs) (Fnc.rows p.funs) p.query.k p.query.n (bx p.query.name) (strs p.query.names) (ints p.query.odds) (E.rows p.query.kids) p.query.line p.query.col (bytesR c) (D.str (bx g.name)) (D.list 5 (Fld.rows g.params)) (D.int .i64 g.res.k) (D.list 2 (T.rows g.res.l)) (D.int .i64 g.body.k) (D.int .i64 g.body.n) (D.str (bx g.body.name)) (D.list 1 (strs g.body.names)) (D.list 1 (ints g.body.odds)) (D.list 8 (E.rows g.body.kids)) (D.int .i64 g.body.line) (D.int .i64 g.body.col) (D.int .i64 g.line) (D.int .i64 g.col)) (RV (prV (trim whole))) := by
        intro d
        induction d with
        | zero =>
          intro j s c hj hd hw hc
          rw [List.drop_eq_nil_of_le (by omega), List.map_nil, tl_nil, List.append_nil] at hc
          subst hc
          refine Ev.step ?_
          simp only [l8_2_eq]
          refine Ev.no (lt_no j _ (by omega)) ?_
          have fin : Ev (fun m k n => q8_8 (Ak k) m n (Fnc.rows p.funs) (Int.ofNat p.funs.length) (Int.ofNat i) (Fld.rows p.inputs) (Fnc.rows p.funs) p.query.k p.query.n (bx p.query.name) (strs p.query.names) (ints p.query.odds) (E.rows p.query.kids) p.query.line p.query.col (bytesR c) (D.str (bx g.name)) (D.list 5 (Fld.rows g.params)) (D.int .i64 g.res.k) (D.list 2 (T.rows g.res.l)) (D.int .i64 g.body.k) (D.int .i64 g.body.n) (D.str (bx g.body.name)) (D.list 1 (strs g.body.names)) (D.list 1 (ints g.body.odds)) (D.list 8 (E.rows g.body.kids)) (D.int .i64 g.body.line) (D.int .i64 g.body.col) (D.int .i64 g.line) (D.int .i64 g.col)) (RV (prV (trim whole))) := by
            simp only [q8_8_eq]
            obtain ⟨d1, v1, f1⟩ := C_put [[41, 58, 32], tT g.res, [32, 61, 32]] c ⟨by decide, by omega, by decide, trivial⟩ (Nat.le_of_ble_eq_true rfl)
            obtain ⟨d2, v2, f2⟩ := C_wx 40 g.body hgr.2 hgl.body 0 d1 (by omega)
            rw [tAt_zero] at v2
            obtain ⟨d3, v3, f3⟩ := C_put [[59, 10]] d2 ⟨by decide, trivial⟩ (Nat.le_of_ble_eq_true rfl)
            refine v_oS (C_tt 40 g.res hgr.1.2 (by omega)) (v_n_FO5x1 f1 (v_n_FO5x1 f2 (v_n_FO5x1 f3 ?_)))
            simp only [q8_9_eq, wrap_up i (show i < 9223372036854775807 by omega)]
            refine ih (i + 1) _ _ (by omega) (by omega) (((hw.seq v1).seq v2).seq v3) ?_
            rw [← ha]
            simp only [tFn, List.append_assoc, List.flatten_cons, List.flatten_nil, List.append_nil, List.cons_append, List.nil_append]
          exact Ev.of_eq (fun m k n => by rw [Nat.add_assoc m 1]) (fin.shift (1 + j))
        | succ d ihj =>
          intro j s c hj hd hw hc
          have hjt : j < g.params.length := by omega
          have hfm := List.getElem_mem hjt
          obtain ⟨ft, fl1, fl2⟩ := tt_of (hgr.1.1.1 _ hfm) (m.typ g hgm _ hfm)
          rw [List.drop_eq_getElem_cons hjt, List.map_cons, tl_cons, ← List.append_assoc, ← List.append_assoc] at hc
          refine Ev.step ?_
          simp only [l8_2_eq]
          refine Ev.yes (lt_yes j _ hjt) ?_
          simp only [q8_5_eq, tn, drows', Fld.rows_at g.params j hjt, Fld.row_eq, Fld.rows_len, List.getD_cons_succ, List.getD_cons_zero]
          have mid : ∀ c, W [] (s ++ sep j) c → Ev (fun m k n => q8_6 (Ak k) m (m + 1 + j) n (Fnc.rows p.funs) (Int.ofNat p.funs.length) (Int.ofNat i) (D.list 5 (Fld.rows g.params)) (Int.ofNat g.params.length) (Int.ofNat j) (Fld.rows p.inputs) (Fnc.rows p.funs) p.query.k p.query.n (bx p.query.name) (strs p.query.names) (ints p.query.odds) (E.rows p.query.kids) p.query.line p.query.col (bytesR c) (D.str (bx g.name)) (D.list 5 (Fld.rows g.params)) (D.int .i64 g.res.k) (D.list 2 (T.rows g.res.l)) (D.int .i64 g.body.k) (D.int .i64 g.body.n) (D.str (bx g.body.name)) (D.list 1 (strs g.body.names)) (D.list 1 (ints g.body.odds)) (D.list 8 (E.rows g.body.kids)) (D.int .i64 g.body.line) (D.int .i64 g.body.col) (D.int .i64 g.line) (D.int .i64 g.col) (D.str (bx g.params[j].name)) (D.int .i64 g.params[j].typ.k) (D.list 2 (T.rows g.params[j].typ.l)) (D.int .i64 g.params[j].line) (D.int .i64 g.params[j].col)) (RV (prV (trim whole))) := fun c hw => by
            simp only [q8_6_eq]
            obtain ⟨d1, v1, f1⟩ := C_put [g.params[j].name, [58, 32], tT g.params[j].typ] c ⟨by omega, by decide, by omega, trivial⟩ (Nat.le_of_ble_eq_true rfl)
            refine v_oS ft (v_n_FO5x1 f1 ?_)
            simp only [q8_7_eq, wrap_up j (show j < 9223372036854775807 by omega)]
            refine Ev.of_eq (fun m k n => by rw [Nat.add_assoc m 1 j, Nat.add_comm 1 j]) (ihj (j + 1) _ _ (by omega) (by omega) (hw.seq v1) ?_)
            rw [← hc]
            simp only [tF, List.append_assoc, List.flatten_cons, List.flatten_nil, List.append_nil, List.cons_append, List.nil_append]
          refine Ev.yes rfl (Ev.yes (in_range j _ hjt) ?_)
          by_cases h0 : j = 0
          · subst h0
            exact Ev.no rfl (mid c (by simpa only [sep, if_true, List.append_nil] using hw))
          · refine Ev.yes (decide_eq_true (by show (0 : Int) < Int.ofNat j; simp only [Int.ofNat_eq_natCast]; omega)) ?_
            have hs : sep j = [44, 32] := if_neg h0
            obtain ⟨d1, v1, f1⟩ := C_put [[44, 32]] c ⟨by decide, trivial⟩ (Nat.le_of_ble_eq_true rfl)
            exact v_n_FO5x1 f1 (mid d1 (by rw [hs]; exact hw.seq v1))
      have key := pars _ 0 (acc ++ [102, 117, 110, 32] ++ g.name ++ [40]) c1 (Nat.zero_le _) rfl (by
        have := hb.seq w1
        simpa only [List.append_assoc, List.flatten_cons, List.flatten_nil, List.append_nil, List.cons_append, List.nil_append] using this) (by rw [List.drop_zero]; rfl)
      exact key
  have ins : ∀ (d i : Nat) (acc b : List UInt8), i ≤ p.inputs.length → p.inputs.length - i = d → W [] acc b → acc ++ tIs (p.inputs.drop i) ++ tFns p.funs ++ tE p.query ++ [10] = whole →
      Ev (fun m k n => l8_0 m (Ak k) n (Fld.rows p.inputs) (Int.ofNat p.inputs.length) (Int.ofNat i) (Fld.rows p.inputs) (Fnc.rows p.funs) p.query.k p.query.n (bx p.query.name) (strs p.query.names) (ints p.query.odds) (E.rows p.query.kids) p.query.line p.query.col (bytesR b)) (RV (prV (trim whole))) := by
    intro d
    induction d with
    | zero =>
      intro i acc b hi hd hb ha
      rw [List.drop_eq_nil_of_le (by omega), tIs, List.append_nil] at ha
      refine Ev.step ?_
      simp only [l8_0_eq]
      refine Ev.no (lt_no i _ (by omega)) ?_
      simp only [q8_3_eq, Fnc.rows_len]
      exact Ev.diag' (funs _ 0 acc b (Nat.zero_le _) rfl hb (by rw [List.drop_zero]; exact ha))
    | succ d ih =>
      intro i acc b hi hd hb ha
      have hlt : i < p.inputs.length := by omega
      have hfm := List.getElem_mem hlt
      obtain ⟨ft, fl1, fl2⟩ := tt_of (h1 _ hfm) (m.inp _ hfm)
      rw [List.drop_eq_getElem_cons hlt, tIs] at ha
      refine Ev.step ?_
      simp only [l8_0_eq]
      refine Ev.yes (lt_yes i _ hlt) ?_
      simp only [q8_1_eq, tn, Fld.rows_at p.inputs i hlt, Fld.row_eq, List.getD_cons_succ, List.getD_cons_zero, Fld.rows_len]
      obtain ⟨d1, v1, f1⟩ := C_put [[105, 110, 112, 117, 116, 32], p.inputs[i].name, [58, 32], tT p.inputs[i].typ, [59, 10]] b ⟨by decide, by omega, by decide, by omega, by decide, trivial⟩ (Nat.le_of_ble_eq_true rfl)
      refine Ev.yes (in_range i _ hlt) (v_oS ft (v_n_FO5x1 f1 ?_))
      simp only [q8_2_eq, wrap_up i (show i < 9223372036854775807 by omega)]
      refine ih (i + 1) _ _ (by omega) (by omega) (hb.seq v1) ?_
      rw [← ha]
      simp only [tI, tF, List.append_assoc, List.flatten_cons, List.flatten_nil, List.append_nil, List.cons_append, List.nil_append]
  simp only [q8_0_eq, Fld.rows_len]
  refine Ev.diag' (ins _ 0 [] [] (Nat.zero_le _) rfl (.nil []) ?_)
  rw [List.drop_zero, ← hW]
  rfl
end
end Go.Proofs.YtaphnbaiamnfpaaGreatDoor.Ps
namespace Go.Proofs.YtaphnbaiamnfpaaGreatDoor.Ps
set_option linter.unusedVariables false
set_option linter.unusedSimpArgs false
open Go Go.RowKit Px
open Lx (Tok)

def MeanT (n most v : Int) (w : Nat) : Prop := 0 ≤ n → n ≤ 1152921504606846976 → most ≤ 1152921504606846976 → n ≤ v ∧ (v ≤ n + 1 ∨ v ≤ most + 1) ∧ (v ≤ most → v = n + Int.ofNat w)
theorem L_tsize (k₀ : Int) (l : List T) (hk : l.length ≤ 140737488351232) (most : Int) (H : ∀ x ∈ l, ∀ n, ∃ v : Int, Cal 50 [tV x, V.one (iX n), V.one (iX most)] [] (RV (V.one (iX v))) ∧ MeanT n most v (wT x)) : ∀ (d i : Nat), i ≤ l.length → l.length - i = d → ∀ n : Int,
    ∃ v : Int, Ev (fun m k n' => l50_0_v1 m (Ak k) n' n most (Int.ofNat i) k₀ (T.rows l)) (RV (V.one (iX v))) ∧
      (0 ≤ n → most ≤ 1152921504606846976 → n ≤ v ∧ (v ≤ n ∨ v ≤ most + 1) ∧ (v ≤ most → v = n + Int.ofNat (wTs (l.drop i)))) := by
  intro d
  induction d with
  | zero =>
    intro i hi hd n
    refine ⟨n, Ev.step ?_, fun _ _ => ⟨Int.le_refl _, .inl (Int.le_refl _), fun _ => ?_⟩⟩
    · simp only [l50_0_v1_eq, T.rows_len]
      exact Ev.no (lt_no i _ (by omega)) (Ev.of fun m k n' => by rw [q50_2_eq])
    · rw [List.drop_eq_nil_of_le (by omega), wTs_nil]; simp
  | succ d ih =>
    intro i hi hd n
    have hlt : i < l.length := by omega
    by_cases hn : n ≤ most
    · obtain ⟨v, hv, hm⟩ := H l[i] (List.getElem_mem hlt) n
      obtain ⟨w, hw, hmw⟩ := ih (i + 1) (by omega) (by omega) v
      refine ⟨w, Ev.step ?_, fun h0 h1 => ?_⟩
      · simp only [l50_0_v1_eq, T.rows_len]
        refine Ev.yes (lt_yes i _ hlt) (Ev.yes (decide_eq_true hn) ?_)
        simp only [q50_0_eq, tn, T.rows_at l i hlt, T.row_eq, T.rows_len]
        refine Ev.yes (in_range i _ hlt) (v_oI hv ?_)
        simp only [q50_1_eq, wrap_up i (show i < 9223372036854775807 by omega)]
        exact hw
      · obtain ⟨a1, a2, a3⟩ := hm h0 (by omega) h1
        obtain ⟨b1, b2, b3⟩ := hmw (by omega) h1
        rw [List.drop_eq_getElem_cons hlt, wTs_cons]
        simp only [Int.ofNat_eq_natCast] at *
        exact ⟨by omega, by omega, fun h => by have := b3 h; have := a3 (by omega); omega⟩
    · refine ⟨n, Ev.step ?_, fun _ _ => ⟨Int.le_refl _, .inl (Int.le_refl _), fun h => absurd h hn⟩⟩
      simp only [l50_0_v1_eq, T.rows_len]
      exact Ev.yes (lt_yes i _ hlt) (Ev.no (decide_eq_false hn) (Ev.of fun m k n' => by rw [q50_2_eq]))
mutual
theorem C_tsize : ∀ (t : T), LenT t → ∀ n most : Int, ∃ v : Int, Cal 50 [tV t, V.one (iX n), V.one (iX most)] [] (RV (V.one (iX v))) ∧ MeanT n most v (wT t)
  | .mk k l, h => fun n most => by
    rw [LenT] at h
    obtain ⟨hks, hkk⟩ := h
    have H := C_tsizes l hkk
    obtain ⟨v, hv, hm⟩ := L_tsize k l hks most (fun x hx n => H x hx n most) _ 0 (Nat.zero_le _) rfl (IntKind.wrap .i64 (n + 1))
    refine ⟨v, call50_v1 _ _ _ _ ?_, fun h0 h1 h2 => ?_⟩
    · simp only [e50_v1_eq]
      exact Ev.diag hv
    · rw [wrap_in (n + 1) (by omega) (by omega)] at hm
      obtain ⟨a1, a2, a3⟩ := hm (by omega) h2
      rw [wT_mk]
      simp only [Int.ofNat_eq_natCast] at *
      refine ⟨by omega, by omega, fun h => ?_⟩
      have := a3 h
      rw [List.drop_zero] at this
      omega
theorem C_tsizes : ∀ (ks : List T), LenTs ks → ∀ x ∈ ks, ∀ n most : Int, ∃ v : Int, Cal 50 [tV x, V.one (iX n), V.one (iX most)] [] (RV (V.one (iX v))) ∧ MeanT n most v (wT x)
  | [], _, x, hx => by cases hx
  | z :: r, hs, x, hx => by
    rw [LenTs] at hs
    rcases List.mem_cons.1 hx with h | h
    · rw [h]; exact C_tsize z hs.1
    · exact C_tsizes r hs.2 x h
end
theorem C_fewTM (most : Int) (hmost : most ≤ 1000000) (ts : List T) (hl : ts.length ≤ 1000000) (H : ∀ x ∈ ts, LenT x) : ∃ v : Bool, Cal 18 [V.one (iX most), V.one (X.d (D.list 2 (T.rows ts)))] [] (RV (V.one (bX v))) ∧ (v = true → Int.ofNat (wTs ts) ≤ most) := by
  have key : ∀ (d i : Nat), i ≤ ts.length → ts.length - i = d → ∀ n : Int, ∃ v : Bool, Ev (fun m k n' => l18_0_v1 m (Ak k) n' most (T.rows ts) n (Int.ofNat i)) (RV (V.one (bX v))) ∧
      (0 ≤ n → n ≤ 1000000 + Int.ofNat i → v = true → n + Int.ofNat (wTs (ts.drop i)) ≤ most) := by
    intro d
    induction d with
    | zero =>
      intro i hi hd n
      refine ⟨decide (n ≤ most), Ev.step ?_, fun _ _ h => ?_⟩
      · simp only [l18_0_v1_eq, T.rows_len]
        exact Ev.no (lt_no i _ (by omega)) (Ev.of fun m k n' => by rw [q18_2_eq])
      · rw [List.drop_eq_nil_of_le (by omega), wTs_nil]
        have := of_decide_eq_true h
        simpa using this
    | succ d ih =>
      intro i hi hd n
      have hlt : i < ts.length := by omega
      obtain ⟨v, hv, hm⟩ := C_tsize ts[i] (H _ (List.getElem_mem hlt)) n most
      obtain ⟨w, hw, hmw⟩ := ih (i + 1) (by omega) (by omega) v
      refine ⟨w, Ev.step ?_, fun h0 h1 h2 => ?_⟩
      · simp only [l18_0_v1_eq, T.rows_len]
        refine Ev.yes (lt_yes i _ hlt) ?_
        simp only [q18_0_v1_eq, tn, T.rows_at ts i hlt, T.row_eq, T.rows_len]
        refine Ev.yes (in_range i _ hlt) (v_oI hv ?_)
        simp only [q18_1_v1_eq, wrap_up i (show i < 9223372036854775807 by omega)]
        exact hw
      · simp only [Int.ofNat_eq_natCast] at *
        obtain ⟨a1, a2, a3⟩ := hm h0 (by omega) (by omega)
        have := hmw (by omega) (by omega) h2
        rw [List.drop_eq_getElem_cons hlt, wTs_cons]
        have := a3 (by omega)
        simp only [Int.ofNat_eq_natCast] at *
        omega
  obtain ⟨v, hv, hm⟩ := key _ 0 (Nat.zero_le _) rfl 0
  refine ⟨v, call18_v1 _ _ ?_, fun h => ?_⟩
  · simp only [e18_v1_eq]
    exact Ev.diag hv
  · have := hm (Int.le_refl _) (by simp only [Int.ofNat_eq_natCast]; omega) h
    rw [List.drop_zero] at this
    omega
theorem C_fewN (most : Int) : ∃ v : Bool, Cal 18 [V.one (iX most), V.one (X.nilL 2)] [] (RV (V.one (bX v))) ∧ (v = true → (0 : Int) ≤ most) := by
  refine ⟨decide ((0 : Int) ≤ most), call18 _ ?_, of_decide_eq_true⟩
  simp only [e18_eq]
  have : Ev (fun m k n' => l18_0 m (Ak k) n' most 0 0) (RV (V.one (bX (decide ((0 : Int) ≤ most))))) := by
    refine Ev.step ?_
    simp only [l18_0_eq]
    exact Ev.no rfl (Ev.of fun m k n' => by rw [q18_2_eq])
  exact Ev.diag this

theorem wEs_mem : ∀ {l : List E} {x : E}, x ∈ l → wE x ≤ wEs l
  | y :: r, x, h => by
    rw [wEs_cons]
    rcases List.mem_cons.1 h with rfl | h
    · omega
    · have := wEs_mem h; omega
theorem wTs_mem : ∀ {l : List T} {x : T}, x ∈ l → wT x ≤ wTs l
  | y :: r, x, h => by
    rw [wTs_cons]
    rcases List.mem_cons.1 h with rfl | h
    · omega
    · have := wTs_mem h; omega
def FewOf (x0 : Int) (es : List E) (ts : List T) (gs : List Fnc) : Prop :=
  (∀ x ∈ es, Int.ofNat (wE x) ≤ x0) ∧ (∀ x ∈ ts, Int.ofNat (wT x) ≤ x0) ∧ ∀ g ∈ gs, g.params.length ≤ 100 ∧ Int.ofNat (wE g.body) ≤ x0 ∧ Int.ofNat (wT g.res) ≤ x0 ∧ ∀ f ∈ g.params, Int.ofNat (wT f.typ) ≤ x0
theorem FewOf.nil {x0 : Int} {es : List E} {ts : List T} (h : Int.ofNat (wEs es) ≤ x0) (h2 : Int.ofNat (wTs ts) ≤ x0) : FewOf x0 es ts [] :=
  ⟨fun x hx => by have := wEs_mem hx; simp only [Int.ofNat_eq_natCast] at *; omega, fun x hx => by have := wTs_mem hx; simp only [Int.ofNat_eq_natCast] at *; omega, fun g hg => by cases hg⟩
theorem FewOf.fn {x0 : Int} {es : List E} {ts : List T} {g : Fnc} {gs : List Fnc} (hp : g.params.length ≤ 100) (h : FewOf x0 (es ++ [g.body]) ((ts ++ [g.res]) ++ (g.params.drop 0).map (·.typ)) gs) : FewOf x0 es ts (g :: gs) := by
  obtain ⟨h1, h2, h3⟩ := h
  rw [List.drop_zero] at h2
  refine ⟨fun x hx => h1 x (by simp [hx]), fun x hx => h2 x (by simp [hx]), fun y hy => ?_⟩
  rcases List.mem_cons.1 hy with rfl | hy
  · exact ⟨hp, h1 _ (by simp), h2 _ (by simp), fun f hf => h2 _ (by simp only [List.mem_append, List.mem_map]; exact .inr ⟨f, hf, rfl⟩)⟩
  · exact h3 y hy
section
variable (p : Pg) (x0 : Int)
theorem L_fpars (Γ : Bool → SemL) (m0 n0 : Nat) (o : Option Out) (es : List E) (i : Nat) (hi : i < p.funs.length) (hl : p.funs[i].params.length ≤ 100) : ∀ (d j : Nat) (ts : List T), j ≤ p.funs[i].params.length → p.funs[i].params.length - j = d → ts.length + d ≤ 1000000 →
    q6_8 Γ m0 n0 x0 (E.rows es) (T.rows (ts ++ (p.funs[i].params.drop j).map (·.typ))) (Int.ofNat i) (Fld.rows p.inputs) (Fnc.rows p.funs) p.query.k p.query.n (bx p.query.name) (strs p.query.names) (ints p.query.odds) (E.rows p.query.kids) p.query.line p.query.col = o →
    ∀ m, d < m → l6_2 m Γ m0 n0 x0 (E.rows es) (T.rows ts) (Int.ofNat i) (Int.ofNat j) (Fld.rows p.inputs) (Fnc.rows p.funs) p.query.k p.query.n (bx p.query.name) (strs p.query.names) (ints p.query.odds) (E.rows p.query.kids) p.query.line p.query.col = o := by
  intro d
  induction d with
  | zero =>
    intro j ts hj hd ht h m hm
    obtain ⟨m, rfl⟩ : ∃ m', m = m' + 1 := ⟨m - 1, by omega⟩
    rw [List.drop_eq_nil_of_le (by omega), List.map_nil, List.append_nil] at h
    rw [l6_2_eq]
    simp only [tn, Fnc.rows_len, Fnc.rows_at p.funs i hi, Fnc.row_eq, List.getD_cons_succ, List.getD_cons_zero, drows, Fld.rows_len]
    exact cy (in_range i _ hi) (cy rfl (cn (lt_no j _ (by omega)) h))
  | succ d ih =>
    intro j ts hj hd ht h m hm
    obtain ⟨m, rfl⟩ : ∃ m', m = m' + 1 := ⟨m - 1, by omega⟩
    have hlt : j < p.funs[i].params.length := by omega
    rw [l6_2_eq]
    simp only [tn, Fnc.rows_len, Fnc.rows_at p.funs i hi, Fnc.row_eq, List.getD_cons_succ, List.getD_cons_zero, drows, Fld.rows_len]
    refine cy (in_range i _ hi) (cy rfl (cy (lt_yes j _ hlt) ?_))
    rw [q6_6_eq]
    simp only [tn, Fnc.rows_len, Fnc.rows_at p.funs i hi, Fnc.row_eq, List.getD_cons_succ, List.getD_cons_zero, drows, Fld.rows_len, Fld.rows_at p.funs[i].params j hlt, Fld.row_eq]
    refine cy (in_range i _ hi) (cy rfl (cy (in_range j _ hlt) (cy (by rw [T.rows_len]; exact room ts.length 33 (by omega) (by omega)) ?_)))
    rw [q6_7_eq, wrap_up j (show j < 9223372036854775807 by omega), ← T.rows_app]
    refine ih (j + 1) (ts ++ [p.funs[i].params[j].typ]) (by omega) (by omega) (by rw [List.length_append, List.length_singleton]; omega) ?_ m (by omega)
    rw [List.drop_eq_getElem_cons hlt, List.map_cons] at h
    rw [List.append_assoc]
    exact h
variable (hx0 : x0 ≤ 1000000) (h : LenP p) (hi : p.inputs.length ≤ 100) (hf : p.funs.length ≤ 100)
include hx0 h hf
theorem few_funs : ∀ (d i : Nat), i ≤ p.funs.length → p.funs.length - i = d → ∀ (es : List E) (ts : List T), es.length ≤ 1 + i → ts.length ≤ 200 + 200 * i → (∀ x ∈ es, LenE x) → (∀ x ∈ ts, LenT x) →
    ∃ v : Bool, Ev (fun m k n => l6_1_v1 m (Ak k) n x0 (E.rows es) (T.rows ts) (Int.ofNat i) (Fld.rows p.inputs) (Fnc.rows p.funs) p.query.k p.query.n (bx p.query.name) (strs p.query.names) (ints p.query.odds) (E.rows p.query.kids) p.query.line p.query.col) (RV (V.one (bX v))) ∧ (v = true → FewOf x0 es ts (p.funs.drop i)) := by
  intro d
  induction d with
  | zero =>
    intro i hi hd es ts he ht hee htt
    obtain ⟨b, hb, hbm⟩ := C_fewM x0 hx0 es (by omega) hee
    obtain ⟨c, hc, hcm⟩ := C_fewTM x0 hx0 ts (by omega) htt
    refine ⟨b && c, Ev.step ?_, fun hbc => by
      rw [Bool.and_eq_true] at hbc
      rw [List.drop_eq_nil_of_le (by omega)]
      exact .nil (hbm hbc.1) (hcm hbc.2)⟩
    simp only [l6_1_v1_eq, Fnc.rows_len]
    refine Ev.no (lt_no i _ (by omega)) ?_
    simp only [q6_9_v1_eq]
    refine v_oB hb ?_
    cases b with
    | false => exact Ev.no rfl (Ev.ret _)
    | true => exact Ev.yes rfl (v_oB hc (Ev.ret _))
  | succ d ih =>
    intro i hi hd es ts he ht hee htt
    have hlt : i < p.funs.length := by omega
    have hx := h.fn _ (List.getElem_mem hlt)
    by_cases hp : 100 < p.funs[i].params.length
    · refine ⟨false, Ev.step ?_, fun h => by cases h⟩
      simp only [l6_1_v1_eq, Fnc.rows_len]
      refine Ev.yes (lt_yes i _ hlt) ?_
      simp only [q6_4_v1_eq, tn, Fnc.rows_len, Fnc.rows_at p.funs i hlt, Fnc.row_eq, List.getD_cons_succ, List.getD_cons_zero, drows, Fld.rows_len]
      exact Ev.yes (in_range i _ hlt) (Ev.yes rfl (Ev.yes (decide_eq_true (by show (100 : Int) < Int.ofNat _; simp only [Int.ofNat_eq_natCast]; omega)) (Ev.ret _)))
    obtain ⟨v, ⟨K, hK⟩, hvm⟩ := ih (i + 1) (by omega) (by omega) (es ++ [p.funs[i].body]) ((ts ++ [p.funs[i].res]) ++ (p.funs[i].params.drop 0).map (·.typ)) (by rw [List.length_append, List.length_singleton]; omega)
      (by rw [List.drop_zero, List.length_append, List.length_append, List.length_singleton, List.length_map]; omega)
      (fun x hxm => by
        rcases List.mem_append.1 hxm with hxm | hxm
        · exact hee x hxm
        · rw [List.mem_singleton.1 hxm]; exact hx.body)
      (fun x hxm => by
        rcases List.mem_append.1 hxm with hxm | hxm
        · rcases List.mem_append.1 hxm with hxm | hxm
          · exact htt x hxm
          · rw [List.mem_singleton.1 hxm]; exact hx.res
        · rw [List.drop_zero] at hxm
          obtain ⟨y, hy, rfl⟩ := List.mem_map.1 hxm
          exact hx.typ y hy)
    refine ⟨v, Ev.step ?_, fun hv => by
      rw [List.drop_eq_getElem_cons hlt]
      exact .fn (by omega) (hvm hv)⟩
    simp only [l6_1_v1_eq, Fnc.rows_len]
    refine Ev.yes (lt_yes i _ hlt) ?_
    simp only [q6_4_v1_eq, tn, Fnc.rows_len, Fnc.rows_at p.funs i hlt, Fnc.row_eq, List.getD_cons_succ, List.getD_cons_zero, drows, Fld.rows_len]
    refine Ev.yes (in_range i _ hlt) (Ev.yes rfl (Ev.no (decide_eq_false (by show ¬ (100 : Int) < Int.ofNat _; simp only [Int.ofNat_eq_natCast]; omega)) ?_))
    simp only [q6_5_v1_eq, tn, Fnc.rows_len, Fnc.rows_at p.funs i hlt, Fnc.row_eq, List.getD_cons_succ, List.getD_cons_zero, drows, Fld.rows_len, E.rows_len, T.rows_len]
    refine Ev.yes (in_range i _ hlt) (Ev.yes (room es.length 121 (by omega) (by omega)) (Ev.yes (in_range i _ hlt) (Ev.yes (room ts.length 33 (by omega) (by omega)) ?_)))
    simp only [← T.rows_app, ← E.rows_app]
    refine ⟨K + 200, fun m k n h1 h2 h3 => L_fpars p x0 (Ak k) m n _ _ i hlt (by omega) _ 0 _ (Nat.zero_le _) rfl (by rw [List.length_append, List.length_singleton]; omega) ?_ m (by omega)⟩
    rw [q6_8_eq, wrap_up i (show i < 9223372036854775807 by omega)]
    exact hK m k n (by omega) (by omega) (by omega)
theorem few_funs0 (es : List E) (he : es.length ≤ 1) (hee : ∀ x ∈ es, LenE x) :
    ∃ v : Bool, Ev (fun m k n => l6_1 m (Ak k) n x0 (E.rows es) (Int.ofNat 0) (Fld.rows p.inputs) (Fnc.rows p.funs) p.query.k p.query.n (bx p.query.name) (strs p.query.names) (ints p.query.odds) (E.rows p.query.kids) p.query.line p.query.col) (RV (V.one (bX v))) ∧ (v = true → FewOf x0 es [] p.funs) := by
  by_cases hlt : 0 < p.funs.length
  rotate_left
  · obtain ⟨b, hb, hbm⟩ := C_fewM x0 hx0 es (by omega) hee
    obtain ⟨c, hc, hcm⟩ := C_fewN x0
    refine ⟨b && c, Ev.step ?_, fun hbc => by
      rw [Bool.and_eq_true] at hbc
      rw [List.eq_nil_of_length_eq_zero (show p.funs.length = 0 by omega)]
      exact .nil (hbm hbc.1) (by rw [wTs_nil]; exact hcm hbc.2)⟩
    simp only [l6_1_eq, Fnc.rows_len]
    refine Ev.no (lt_no 0 _ (by omega)) ?_
    simp only [q6_9_eq]
    refine v_oB hb ?_
    cases b with
    | false => exact Ev.no rfl (Ev.ret _)
    | true => exact Ev.yes rfl (v_oB hc (Ev.ret _))
  · have hx := h.fn _ (List.getElem_mem hlt)
    by_cases hp : 100 < p.funs[0].params.length
    · refine ⟨false, Ev.step ?_, fun h => by cases h⟩
      simp only [l6_1_eq, Fnc.rows_len]
      refine Ev.yes (lt_yes 0 _ hlt) ?_
      simp only [q6_4_eq, tn, Fnc.rows_len, Fnc.rows_at p.funs 0 hlt, Fnc.row_eq, List.getD_cons_succ, List.getD_cons_zero, drows, Fld.rows_len]
      exact Ev.yes (in_range 0 _ hlt) (Ev.yes rfl (Ev.yes (decide_eq_true (by show (100 : Int) < Int.ofNat _; simp only [Int.ofNat_eq_natCast]; omega)) (Ev.ret _)))
    obtain ⟨v, ⟨K, hK⟩, hvm⟩ := few_funs p x0 hx0 h hf _ 1 (by omega) rfl (es ++ [p.funs[0].body]) ([p.funs[0].res] ++ (p.funs[0].params.drop 0).map (·.typ)) (by rw [List.length_append, List.length_singleton]; omega)
      (by rw [List.drop_zero, List.length_append, List.length_singleton, List.length_map]; omega)
      (fun x hxm => by
        rcases List.mem_append.1 hxm with hxm | hxm
        · exact hee x hxm
        · rw [List.mem_singleton.1 hxm]; exact hx.body)
      (fun x hxm => by
        rcases List.mem_append.1 hxm with hxm | hxm
        · rw [List.mem_singleton.1 hxm]; exact hx.res
        · rw [List.drop_zero] at hxm
          obtain ⟨y, hy, rfl⟩ := List.mem_map.1 hxm
          exact hx.typ y hy)
    refine ⟨v, Ev.step ?_, fun hv => by
      have e : p.funs = p.funs[0] :: p.funs.drop 1 := by rw [← List.drop_eq_getElem_cons hlt]; rfl
      rw [e]
      exact .fn (by omega) (hvm hv)⟩
    simp only [l6_1_eq, Fnc.rows_len]
    refine Ev.yes (lt_yes 0 _ hlt) ?_
    simp only [q6_4_eq, tn, Fnc.rows_len, Fnc.rows_at p.funs 0 hlt, Fnc.row_eq, List.getD_cons_succ, List.getD_cons_zero, drows, Fld.rows_len]
    refine Ev.yes (in_range 0 _ hlt) (Ev.yes rfl (Ev.no (decide_eq_false (by show ¬ (100 : Int) < Int.ofNat _; simp only [Int.ofNat_eq_natCast]; omega)) ?_))
    simp only [q6_5_eq, tn, Fnc.rows_len, Fnc.rows_at p.funs 0 hlt, Fnc.row_eq, List.getD_cons_succ, List.getD_cons_zero, drows, Fld.rows_len, E.rows_len]
    refine Ev.yes (in_range 0 _ hlt) (Ev.yes (room es.length 121 (by omega) (by omega)) (Ev.yes (in_range 0 _ hlt) ?_))
    simp only [← T.rows_one, ← E.rows_app]
    refine ⟨K + 200, fun m k n h1 h2 h3 => L_fpars p x0 (Ak k) m n _ _ 0 hlt (by omega) _ 0 _ (Nat.zero_le _) rfl (by rw [List.length_singleton]; omega) ?_ m (by omega)⟩
    rw [q6_8_eq, wrap_up 0 (by decide)]
    exact hK m k n (by omega) (by omega) (by omega)
include hi
theorem few_ins (es : List E) (he : es.length ≤ 1) (hee : ∀ x ∈ es, LenE x) : ∀ (d i : Nat), i ≤ p.inputs.length → p.inputs.length - i = d → ∀ (ts : List T), ts.length ≤ i → (∀ x ∈ ts, LenT x) →
    ∃ v : Bool, Ev (fun m k n => l6_0_v1 m (Ak k) n x0 (E.rows es) (T.rows ts) (Int.ofNat i) (Fld.rows p.inputs) (Fnc.rows p.funs) p.query.k p.query.n (bx p.query.name) (strs p.query.names) (ints p.query.odds) (E.rows p.query.kids) p.query.line p.query.col) (RV (V.one (bX v))) ∧ (v = true → FewOf x0 es (ts ++ (p.inputs.drop i).map (·.typ)) p.funs) := by
  intro d
  induction d with
  | zero =>
    intro i hi' hd ts ht htt
    obtain ⟨v, hv, hvm⟩ := few_funs p x0 hx0 h hf _ 0 (Nat.zero_le _) rfl es ts (by omega) (by omega) hee htt
    refine ⟨v, Ev.step ?_, fun hv => by
      rw [List.drop_eq_nil_of_le (by omega), List.map_nil, List.append_nil]
      exact hvm hv⟩
    simp only [l6_0_v1_eq, Fld.rows_len]
    refine Ev.no (lt_no i _ (by omega)) ?_
    simp only [q6_3_v1_eq]
    exact Ev.diag hv
  | succ d ih =>
    intro i hi' hd ts ht htt
    have hlt : i < p.inputs.length := by omega
    obtain ⟨v, hv, hvm⟩ := ih (i + 1) (by omega) (by omega) (ts ++ [p.inputs[i].typ]) (by rw [List.length_append, List.length_singleton]; omega) (fun x hxm => by
        rcases List.mem_append.1 hxm with hxm | hxm
        · exact htt x hxm
        · rw [List.mem_singleton.1 hxm]; exact h.inp _ (List.getElem_mem hlt))
    refine ⟨v, Ev.step ?_, fun hv => by
      have := hvm hv
      rw [List.append_assoc] at this
      rw [List.drop_eq_getElem_cons hlt, List.map_cons]
      exact this⟩
    simp only [l6_0_v1_eq, Fld.rows_len]
    refine Ev.yes (lt_yes i _ hlt) ?_
    simp only [q6_1_v1_eq, tn, Fld.rows_len, Fld.rows_at p.inputs i hlt, Fld.row_eq, List.getD_cons_succ, List.getD_cons_zero, T.rows_len]
    refine Ev.yes (in_range i _ hlt) (Ev.yes (room ts.length 33 (by omega) (by omega)) ?_)
    simp only [q6_2_eq, ← T.rows_app, wrap_up i (show i < 9223372036854775807 by omega)]
    exact hv
theorem few_ins0 (es : List E) (he : es.length ≤ 1) (hee : ∀ x ∈ es, LenE x) :
    ∃ v : Bool, Ev (fun m k n => l6_0 m (Ak k) n x0 (E.rows es) (Int.ofNat 0) (Fld.rows p.inputs) (Fnc.rows p.funs) p.query.k p.query.n (bx p.query.name) (strs p.query.names) (ints p.query.odds) (E.rows p.query.kids) p.query.line p.query.col) (RV (V.one (bX v))) ∧ (v = true → FewOf x0 es (p.inputs.map (·.typ)) p.funs) := by
  by_cases hlt : 0 < p.inputs.length
  · obtain ⟨v, hv, hvm⟩ := few_ins p x0 hx0 h hi hf es he hee _ 1 (by omega) rfl [p.inputs[0].typ] (Nat.le_refl _) (fun x hxm => by rw [List.mem_singleton.1 hxm]; exact h.inp _ (List.getElem_mem hlt))
    refine ⟨v, Ev.step ?_, fun hv => by
      have e : p.inputs = p.inputs[0] :: p.inputs.drop 1 := by rw [← List.drop_eq_getElem_cons hlt]; rfl
      rw [e]
      exact hvm hv⟩
    simp only [l6_0_eq, Fld.rows_len]
    refine Ev.yes (lt_yes 0 _ hlt) ?_
    simp only [q6_1_eq, tn, Fld.rows_len, Fld.rows_at p.inputs 0 hlt, Fld.row_eq, List.getD_cons_succ, List.getD_cons_zero]
    refine Ev.yes (in_range 0 _ hlt) ?_
    simp only [q6_2_eq, ← T.rows_one, wrap_up 0 (by decide)]
    exact hv
  · obtain ⟨v, hv, hvm⟩ := few_funs0 p x0 hx0 h hf es he hee
    refine ⟨v, Ev.step ?_, fun hv => by
      rw [List.eq_nil_of_length_eq_zero (show p.inputs.length = 0 by omega)]
      exact hvm hv⟩
    simp only [l6_0_eq, Fld.rows_len]
    refine Ev.no (lt_no 0 _ (by omega)) ?_
    simp only [q6_3_eq]
    exact Ev.diag hv
end
theorem C_fewPM (x0 : Int) (hx0 : x0 ≤ 1000000) (p : Pg) (h : LenP p) : ∃ v : Bool, Cal 6 [V.one (iX x0), pV p] [] (RV (V.one (bX v))) ∧ (v = true → p.inputs.length ≤ 100 ∧ p.funs.length ≤ 100 ∧ FewOf x0 [p.query] (p.inputs.map (·.typ)) p.funs) := by
  by_cases hi : 100 < p.inputs.length
  · refine ⟨false, call6 _ _ _ _ _ _ _ _ _ _ _ ?_, fun h => by cases h⟩
    simp only [e6_eq, Fld.rows_len, Fnc.rows_len]
    exact Ev.yes (decide_eq_true (by show (100 : Int) < Int.ofNat _; simp only [Int.ofNat_eq_natCast]; omega)) (Ev.ret _)
  by_cases hf : 100 < p.funs.length
  · refine ⟨false, call6 _ _ _ _ _ _ _ _ _ _ _ ?_, fun h => by cases h⟩
    simp only [e6_eq, Fld.rows_len, Fnc.rows_len]
    exact Ev.no (decide_eq_false (by show ¬ (100 : Int) < Int.ofNat _; simp only [Int.ofNat_eq_natCast]; omega)) (Ev.yes (decide_eq_true (by show (100 : Int) < Int.ofNat _; simp only [Int.ofNat_eq_natCast]; omega)) (Ev.ret _))
  obtain ⟨v, hv, hvm⟩ := few_ins0 p x0 hx0 h (by omega) (by omega) [p.query] (Nat.le_refl _) (fun x hx => by rw [List.mem_singleton.1 hx]; exact h.query)
  refine ⟨v, call6 _ _ _ _ _ _ _ _ _ _ _ ?_, fun hv => ⟨by omega, by omega, hvm hv⟩⟩
  simp only [e6_eq, Fld.rows_len, Fnc.rows_len]
  refine Ev.no (decide_eq_false (by show ¬ (100 : Int) < Int.ofNat _; simp only [Int.ofNat_eq_natCast]; omega)) (Ev.no (decide_eq_false (by show ¬ (100 : Int) < Int.ofNat _; simp only [Int.ofNat_eq_natCast]; omega)) ?_)
  simp only [q6_0_eq, ← E.rows_one]
  exact Ev.diag hv
theorem mild_of {p : Pg} {x0 : Int} (hx : x0 ≤ 100000) (h : p.inputs.length ≤ 100 ∧ p.funs.length ≤ 100 ∧ FewOf x0 [p.query] (p.inputs.map (·.typ)) p.funs) : Mild p := by
  obtain ⟨a, b, c, d, e⟩ := h
  simp only [Int.ofNat_eq_natCast] at c d e
  exact ⟨a, b, fun f hf => by have := d _ (List.mem_map_of_mem hf); omega, fun g hg => (e g hg).1, fun g hg f hf => by have := (e g hg).2.2.2 f hf; omega,
    fun g hg => by have := (e g hg).2.2.1; omega, fun g hg => by have := (e g hg).2.1; omega, by have := c _ (List.mem_singleton.2 rfl); omega⟩
theorem C_pProg (p : Pg) (h : LenP p) (m : Mild p) : Cal 8 [pV p] [] (RV (prV (prP p))) := by
  unfold prP
  cases hr : rightP p with
  | true => rw [if_pos rfl]; exact C_pProgram p h hr m
  | false =>
    rw [if_neg (by decide)]
    refine call8 _ _ _ _ _ _ _ _ _ _ ?_
    simp only [e8_eq]
    refine v_oB (C_Right p h) ?_
    rw [hr]
    exact Ev.yes rfl (Ev.ret _)
theorem C_rProg (p : Pg) (h : LenP p) (m : Mild p) : Cal 9 [pV p] [] (RV (prV (prP p))) := by
  unfold prP
  cases hr : rightP p with
  | true => rw [if_pos rfl]; exact C_rProgram p h hr m
  | false =>
    rw [if_neg (by decide)]
    refine call9 _ _ _ _ _ _ _ _ _ _ ?_
    simp only [e9_eq]
    refine v_oB (C_rRight p h) ?_
    rw [hr]
    exact Ev.yes rfl (Ev.ret _)
theorem lawPrograms (p : Pg) (h : LenP p) : Cal 3 [pV p] [] (YB true) := by
  refine call3 _ _ _ _ _ _ _ _ _ _ ?_
  simp only [e3_eq]
  obtain ⟨b, hb, hm⟩ := C_fewPM 8000 (by decide) p h
  refine v_oB hb ?_
  cases b with
  | false => exact Ev.yes rfl (v_oB C_awake' (Ev.ret _))
  | true =>
    refine Ev.no rfl ?_
    have m := mild_of (by decide) (hm rfl)
    simp only [q3_0_eq]
    refine v_t2oSoI (C_pProg p h m) (v_t2oSoI (C_rProg p h m) ?_)
    exact Ev.yes ((beqL_eq _ _).trans (beq_self_eq_true _)) (Ev.yes (beq_self_eq_true _) (v_oB C_awake' (Ev.ret _)))
end Go.Proofs.YtaphnbaiamnfpaaGreatDoor.Ps
