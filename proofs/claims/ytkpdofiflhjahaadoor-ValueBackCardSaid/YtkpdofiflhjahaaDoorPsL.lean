/- A call, whole. -/
import Derived.Test.YtkpdofiflhjahaaDoorPsK
namespace Go.Proofs.YtkpdofiflhjahaaDoor.Ps
set_option linter.unusedVariables false
set_option linter.unusedSimpArgs false
open Go Go.RowKit

/-! ### The looks of a call -/
section
variable {α : Type}
theorem rowsK_some {H : Nat → Option Blk} : ∀ {ids : List Nat} {K : List Blk → List (List Lf × List D) → Option α} {r : α}, rowsK H ids K = some r →
    ∃ blks rows, K blks rows = some r ∧ blks.length = ids.length ∧ rows.length = ids.length ∧ ∀ (i b : Nat), ids[i]? = some b → ∃ x, H b = some x ∧ blks[i]? = some x ∧ rows[i]? = some (x.sh, x.row.map X.toD)
  | [], K, r, h => ⟨[], [], h, rfl, rfl, fun i b hi => by simp at hi⟩
  | b :: ids, K, r, h => by
    unfold rowsK at h
    obtain ⟨x, hx, h⟩ := gBlk_some h
    have h := gDs_some h
    obtain ⟨blks, rows, h1, h2, h3, h4⟩ := rowsK_some h
    refine ⟨x :: blks, (x.sh, x.row.map X.toD) :: rows, h1, by simp [h2], by simp [h3], fun i b' hi => ?_⟩
    cases i with
    | zero => simp at hi; subst hi; exact ⟨x, hx, rfl, rfl⟩
    | succ i => simpa using h4 i b' (by simpa using hi)
theorem X.isD_eq {x : X} (h : x.isD = true) : x = .d x.dd := by cases x <;> first | rfl | cases h
theorem X.isNil_eq {sz : Nat} {x : X} (h : x.isNil sz = true) : x = .nilL sz := by
  cases x <;> first | (cases h; done) | (rw [Nat.eq_of_beq_eq_true h])
theorem X.isOwn_eq {e sz : Nat} {x : X} (h : x.isOwn e sz = true) : x = .own x.key e sz x.orows := by
  cases x <;> first | (cases h; done) | skip
  rename_i κ e' s rows
  simp only [X.isOwn, Bool.and_eq_true] at h
  rw [Nat.eq_of_beq_eq_true h.1, Nat.eq_of_beq_eq_true h.2]
  rfl
theorem castX_some {l : Lf} {x : X} {K : X → Option α} {r : α} (h : castX l x K = some r) : K x = some r := by
  unfold castX at h
  split at h
  · obtain ⟨h1, h2⟩ := cond_some h; rw [X.isD_eq h1]; exact h2
  · obtain ⟨h1, h2⟩ := cond_some h
    simp only [Bool.and_eq_true] at h1
    rw [X.isD_eq h1.1, D.isBool_eq h1.2]; exact h2
  · obtain ⟨h1, h2⟩ := cond_some h
    simp only [Bool.and_eq_true] at h1
    rw [X.isD_eq h1.1, D.isInt_eq h1.2]; exact h2
  · obtain ⟨h1, h2⟩ := cond_some h
    simp only [Bool.and_eq_true] at h1
    rw [X.isD_eq h1.1, D.isStr_eq h1.2]; exact h2
  · obtain ⟨h1, h2⟩ := cond_some h
    simp only [Bool.and_eq_true] at h1
    rw [X.isD_eq h1.1, D.isList_eq h1.2]; exact h2
  · obtain ⟨h1, h2⟩ := cond_some h; rw [X.isNil_eq h1]; exact h2
  · obtain ⟨h1, h2⟩ := cond_some h; rw [X.isOwn_eq h1]; exact h2
theorem castC_some {l : Lf} {x : X} {c : Nat} {K : X → Nat → Option α} {r : α} (h : castC l x c K = some r) : ∃ c', K x c' = some r := by
  unfold castC at h
  split at h
  · obtain ⟨h1, h2⟩ := cond_some h
    simp only [Bool.and_eq_true] at h1
    have e1 := X.isOwn_eq h1.1
    have e2 := Nat.eq_of_beq_eq_true h1.2
    rw [e1, e2]
    exact ⟨_, h2⟩
  · exact ⟨_, castX_some h⟩
theorem castCs_some : ∀ {ls : List Lf} {v : V} {i c : Nat} {K : List X → Nat → Option α} {r : α}, castCs ls v i c K = some r → ∃ xs c', K xs c' = some r ∧ xs.length = ls.length ∧ ∀ j, j < ls.length → xs[j]? = some (X.cell v (i + j))
  | [], v, i, c, K, r, h => ⟨[], c, h, rfl, fun j hj => absurd hj (by simp)⟩
  | l :: ls, v, i, c, K, r, h => by
    unfold castCs at h
    obtain ⟨c1, h⟩ := castC_some h
    obtain ⟨xs, c2, h1, h2, h3⟩ := castCs_some h
    refine ⟨_ :: xs, c2, h1, by simp [h2], fun j hj => ?_⟩
    cases j with
    | zero => simp
    | succ j =>
      have := h3 j (by simpa using hj)
      rw [List.getElem?_cons_succ, this]
      congr 2
      omega
mutual
theorem castS_some : ∀ (s : Sh) {v : V} {c : Nat} {K : V → Nat → Option α} {r : α}, castS s v c K = some r → ∃ v' c', K v' c' = some r ∧ ∀ g u, RepV g v u → RepV g v' u
  | .one l, v, c, K, r, h => by
    unfold castS at h
    obtain ⟨h1, h⟩ := cond_some h
    obtain ⟨c', h⟩ := castC_some h
    refine ⟨_, c', h, ?_⟩
    cases v <;> first | exact fun _ _ h => h | cases h1
  | .agg ls, v, c, K, r, h => by
    unfold castS at h
    obtain ⟨h1, h⟩ := cond_some h
    obtain ⟨xs, c', h2, h3, h4⟩ := castCs_some h
    refine ⟨_, c', h2, ?_⟩
    cases v with
    | agg cs =>
      have hl : cs.length = ls.length := Nat.eq_of_beq_eq_true h1
      have : xs = cs := by
        apply List.ext_getElem?
        intro j
        by_cases hj : j < ls.length
        · rw [h4 j hj, Nat.zero_add]
          show some (cs.getD j _) = _
          rw [List.getD_eq_getElem?_getD, List.getElem?_eq_getElem (by omega)]
          rfl
        · rw [List.getElem?_eq_none (by omega), List.getElem?_eq_none (by omega)]
      rw [this]
      exact fun _ _ h => h
    | _ => cases h1
  | .tup ss, v, c, K, r, h => by
    unfold castS at h
    obtain ⟨h1, h⟩ := cond_some h
    obtain ⟨xs, c', h2, h3, h4⟩ := castSs_some ss h
    refine ⟨_, c', h2, ?_⟩
    cases v with
    | tup vs =>
      have hl : vs.length = ss.length := Nat.eq_of_beq_eq_true h1
      intro g u hu
      cases hu with
      | tup _ us hul hr =>
        refine .tup xs us (by omega) (fun j hj => ?_)
        obtain ⟨y, hy, hy2⟩ := h4 j (by omega)
        have e : xs.getD j .junk = y := by rw [List.getD_eq_getElem?_getD, hy]; rfl
        rw [e]
        refine hy2 g _ ?_
        have := hr j (by omega)
        rw [Nat.zero_add]
        exact this
    | _ => cases h1
  | .none, v, c, K, r, h => by
    unfold castS at h
    exact ⟨_, _, h, fun _ _ _ => .junk _⟩
theorem castSs_some : ∀ (ss : List Sh) {v : V} {i c : Nat} {K : List V → Nat → Option α} {r : α}, castSs ss v i c K = some r → ∃ xs c', K xs c' = some r ∧ xs.length = ss.length ∧ ∀ j, j < ss.length → ∃ y, xs[j]? = some y ∧ ∀ g u, RepV g (v.comp (i + j)) u → RepV g y u
  | [], v, i, c, K, r, h => by
    unfold castSs at h
    exact ⟨[], c, h, rfl, fun j hj => absurd hj (by simp)⟩
  | s :: ss, v, i, c, K, r, h => by
    unfold castSs at h
    obtain ⟨v1, c1, h, hv⟩ := castS_some s h
    obtain ⟨xs, c2, h1, h2, h3⟩ := castSs_some ss h
    refine ⟨v1 :: xs, c2, h1, by simp [h2], fun j hj => ?_⟩
    cases j with
    | zero => exact ⟨v1, rfl, hv⟩
    | succ j =>
      obtain ⟨y, hy, hy2⟩ := h3 j (by simpa using hj)
      refine ⟨y, by simpa using hy, ?_⟩
      have : i + (j + 1) = i + 1 + j := by omega
      rw [this]
      exact hy2
end
theorem castDs_some : ∀ {ls : List Lf} {row : List D} {i : Nat} {K : List X → Option α} {r : α}, castDs ls row i K = some r → i ≤ row.length → K (begX (row.drop i)) = some r
  | [], row, i, K, r, h, hi => by
    unfold castDs at h
    obtain ⟨h1, h⟩ := cond_some h
    have := Nat.eq_of_beq_eq_true h1
    rw [List.drop_eq_nil_of_le (by omega)]
    exact h
  | l :: ls, row, i, K, r, h, hi => by
    unfold castDs at h
    have h := castX_some h
    have hi2 : i + 1 ≤ row.length := by
      rcases Nat.lt_or_ge i row.length with h1 | h1
      · exact h1
      · exfalso
        have hlen : ∀ (ls : List Lf) (i : Nat) (K : List X → Option α), castDs ls row i K = some r → i ≤ row.length := by
          intro ls
          induction ls with
          | nil => intro i K h; unfold castDs at h; have := Nat.eq_of_beq_eq_true (cond_some h).1; omega
          | cons l ls ih => intro i K h; unfold castDs at h; have := ih _ _ (castX_some h); omega
        have := hlen ls (i + 1) _ h
        omega
    have h := castDs_some h hi2
    rw [List.drop_eq_getElem_cons (by omega)]
    have e : dat row i = row[i] := by
      unfold dat
      rw [List.getD_eq_getElem?_getD, List.getElem?_eq_getElem (by omega)]
      rfl
    rw [e] at h
    exact h
theorem backK_some : ∀ {ids : List Nat} {blks : List Blk} {rows : List (List D)} {i : Nat} {K : List (Nat × Blk) → Option α} {r : α}, backK ids blks rows i K = some r →
    ∃ hw, K hw = some r ∧ (∀ b x, lookB b hw = some x → ∃ j sh, ids[j]? = some b ∧ x = ⟨sh, begX (rows.getD (i + j) [])⟩) ∧ (∀ b, b ∈ ids → (lookB b hw).isSome = true)
  | [], blks, rows, i, K, r, h => by
    unfold backK at h
    exact ⟨[], h, (fun b x hx => by cases hx), (fun b hb => by cases hb)⟩
  | b :: ids, [], rows, i, K, r, h => by cases h
  | b :: ids, x :: bs, rows, i, K, r, h => by
    unfold backK at h
    have h := castDs_some h (Nat.zero_le _)
    rw [List.drop_zero] at h
    obtain ⟨hw, h1, h2, h3⟩ := backK_some h
    refine ⟨_, h1, fun b' x' hx => ?_, fun b' hb => ?_⟩
    · unfold lookB at hx
      cases hq : Nat.beq b b'
      · rw [hq] at hx
        obtain ⟨j, sh, hj, he⟩ := h2 b' x' hx
        refine ⟨j + 1, sh, by simpa using hj, ?_⟩
        rw [he]
        congr 3
        omega
      · rw [hq] at hx
        have e := Nat.eq_of_beq_eq_true hq
        subst e
        cases hx
        exact ⟨0, x.sh, rfl, rfl⟩
    · unfold lookB
      cases hq : Nat.beq b b'
      · have hne : b ≠ b' := fun e => by subst e; simp at hq
        have : b' ∈ ids := by
          rcases List.mem_cons.1 hb with e | e
          · exact absurd e.symm hne
          · exact e
        exact h3 b' this
      · rfl
end

/-! ### What a function's meaning promises -/
structure Entry (g : G) (rows : List (List Lf × List D)) : Prop where
  blk : ∀ i x, lookB i (begB 0 rows) = some x → ∃ B, RepB g i x B
  out : ∀ i, rows.length ≤ i → g.β i = Option.none
  inj : ∀ i j B, g.β i = some B → g.β j = some B → i = j
  lt : ∀ i B, g.β i = some B → B < g.w.heap.size
  fresh : ∀ b, g.w.heap.size ≤ b → g.φ b = 0
  gk : ∀ κ, g.gk κ = Option.none
  us : ∀ κ, ¬ g.us κ
structure OutOk (g g' : G) (n : Nat) (o : Out) (e : Ending) : Prop where
  step : Step g g'
  lens : o.rows.length = n
  rows : ∀ i, i < n → ∃ B cs T, g.β i = some B ∧ g'.w.heap[B]? = some (.cells cs T (0, 0)) ∧ RepXs g' (begX (o.rows.getD i [])) cs.toList ∧ g'.φ B = 0
  fresh : ∀ b, g'.w.heap.size ≤ b → g'.φ b = 0
  ok : o.ok = true → ∃ v, e = .returned v ∧ RepV g' o.val v
  pan : o.ok = false → ∃ u, e = .panicked [{ v := u, recovered := false }] ∧ RepD g'.w g'.φ o.pv u
  alive : ∀ κ, κ < o.m → ∃ t, g'.gk κ = some t
  own : ∀ κ e s u, g'.gk κ = some (e, s, u) → Owned g' e s u
  new : ∀ κ e s u b, g'.gk κ = some (e, s, u) → u.ownBlock = some b → g.w.heap.size ≤ b
  dist : ∀ κ κ' e s u e' s' u' b, g'.gk κ = some (e, s, u) → g'.gk κ' = some (e', s', u') → u.ownBlock = some b → u'.ownBlock = some b → κ = κ'
/-- Memory since the first world: what stood there stands, and none of it may be written. -/
structure Since (w0 : World) (g : G) : Prop where
  below : Below w0.heap.size w0 g.w
  out : ∀ b, Mut g b → w0.heap.size ≤ b
theorem Step.since {w0 : World} {g g' : G} (h : Step g g') (s : Since w0 g) : Since w0 g' where
  below := s.below.trans ⟨h.os, h.tape, h.output, h.size, fun k hk => (h.keep k (Nat.lt_of_lt_of_le hk s.below.size) (fun hm => absurd (s.out k hm) (by omega))).1⟩
  out := fun b hb => by
    rcases h.wri b hb with h1 | h1
    · exact s.out b h1
    · exact Nat.le_trans s.below.size h1
def CallOk (P : Program) (w0 : World) (f : FuncId) (args : List V) (rows : List (List Lf × List D)) (o : Out) : Prop :=
  ∀ (g : G) (vs : List Value), Since w0 g → Entry g rows → RepVs g args vs → (∀ w, (callFunc f vs.toArray).run P w = .ok (.enter f vs.toArray) w) ∧
    Calls P f vs.toArray g.w fun e w' => ∃ g', g'.w = w' ∧ OutOk g g' rows.length o e
def SemOk (P : Program) (w0 : World) (Γ : SemL) : Prop := ∀ f args rows o, Γ f args rows = some o → CallOk P w0 f args rows o
end Go.Proofs.YtkpdofiflhjahaaDoor.Ps
