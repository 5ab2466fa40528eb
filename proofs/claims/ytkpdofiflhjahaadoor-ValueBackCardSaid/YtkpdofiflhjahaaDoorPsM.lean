/- A call of the small language does what the machine's call does. -/
import Derived.Test.YtkpdofiflhjahaaDoorPsL
namespace Go.Proofs.YtkpdofiflhjahaaDoor.Ps
set_option linter.unusedVariables false
set_option linter.unusedSimpArgs false
open Go Go.RowKit

theorem rangeN_mem (κ : Nat) : ∀ (i n : Nat), hasN κ (rangeN i n) = true ↔ i ≤ κ ∧ κ < i + n
  | i, 0 => by simp [rangeN, hasN]
  | i, n + 1 => by
    simp only [rangeN, hasN]
    cases h : Nat.beq i κ
    · have hne : i ≠ κ := fun e => by subst e; simp at h
      have := rangeN_mem κ (i + 1) n
      simp only [cond_false]
      rw [this]
      omega
    · have := Nat.eq_of_beq_eq_true h
      simp only [cond_true, true_iff]
      omega
theorem begX_rep {g g' : G} (hw : g'.w = g.w) (hφ : g'.φ = g.φ) : ∀ {row : List X} {vs : List Value}, RepXs g row vs → RepXs g' (begX (row.map X.toD)) vs
  | [], vs, h => ⟨h.1, fun j hj => absurd hj (by simp [begX])⟩
  | x :: row, vs, h => by
    cases vs with
    | nil => exact absurd h.1 (by simp)
    | cons v vs => exact .cons (.d _ _ (by rw [hw, hφ]; exact h.head.1.toD)) (begX_rep hw hφ h.head.2)
theorem lookB_beg : ∀ (rows : List (List Lf × List D)) (k i : Nat) (x : Blk), lookB i (begB k rows) = some x → k ≤ i ∧ ∃ r, rows[i - k]? = some r ∧ x = ⟨r.1, begX r.2⟩
  | [], k, i, x, h => by cases h
  | (sh, row) :: rs, k, i, x, h => by
    unfold begB lookB at h
    cases hq : Nat.beq k i
    · rw [hq] at h
      obtain ⟨h1, r, h2, h3⟩ := lookB_beg rs (k + 1) i x h
      refine ⟨by omega, r, ?_, h3⟩
      have : i - k = (i - (k + 1)) + 1 := by omega
      rw [this]
      exact h2
    · rw [hq] at h
      have e := Nat.eq_of_beq_eq_true hq
      subst e
      cases h
      exact ⟨Nat.le_refl _, (sh, row), by simp, rfl⟩

section
variable {P : Program} {o : Oper} {a : Act} {N : Nat} {g : G} {vw : View} {Γ : SemL} {shp : FuncId → Sh}
/-- What the callee sees. -/
def G.callee (g : G) (ids : List Nat) : G := ⟨g.w, g.φ, fun i => (ids[i]?).bind g.β, fun _ => none, fun _ => False⟩
theorem callee_entry (h : Rep N g vw a) {ids : List Nat} (hn : ids.Nodup) {blks : List Blk} {rows : List (List Lf × List D)} (hl : rows.length = ids.length)
    (hb : ∀ (i b : Nat), ids[i]? = some b → ∃ x, vw.heap b = some x ∧ blks[i]? = some x ∧ rows[i]? = some (x.sh, x.row.map X.toD)) : Entry (g.callee ids) rows where
  blk := fun i x hx => by
    obtain ⟨_, r, hr, rfl⟩ := lookB_beg rows 0 i x hx
    rw [Nat.sub_zero] at hr
    have hi : i < ids.length := by rw [← hl]; exact (List.getElem?_eq_some_iff.1 hr).1
    obtain ⟨y, hy, _, hr2⟩ := hb i _ (List.getElem?_eq_getElem hi)
    rw [hr] at hr2
    cases hr2
    obtain ⟨B, hB⟩ := h.heap _ y hy
    obtain ⟨cs, T, hc, hx⟩ := hB.cells
    refine ⟨B, ?_, ⟨cs, T, hc, begX_rep (g := g) (g' := g.callee ids) rfl rfl hx⟩, hB.low⟩
    show (ids[i]?).bind g.β = _
    rw [List.getElem?_eq_getElem hi]
    exact hB.at_
  out := fun i hi => by
    show (ids[i]?).bind g.β = _
    rw [List.getElem?_eq_none (by omega)]
    rfl
  inj := fun i j B hi hj => by
    have hi' : (ids[i]?).bind g.β = some B := hi
    have hj' : (ids[j]?).bind g.β = some B := hj
    rw [Option.bind_eq_some_iff] at hi' hj'
    obtain ⟨b, h1, h2⟩ := hi'
    obtain ⟨b', h3, h4⟩ := hj'
    have := h.inj b b' B h2 h4
    subst this
    exact nodup_inj hn h1 h3
  lt := fun i B hi => by
    have hi' : (ids[i]?).bind g.β = some B := hi
    rw [Option.bind_eq_some_iff] at hi'
    obtain ⟨b, h1, h2⟩ := hi'
    exact h.lt b B h2
  fresh := h.fresh
  gk := fun _ => rfl
  us := fun _ e => e
theorem idx_ids {ids : List Nat} {b i : Nat} (h : idx b ids 0 = some i) : ids[i]? = some b := by
  have := (idx_some h).2
  rwa [Nat.sub_zero] at this
theorem callee_args {ids : List Nat} {vs : List V} {us : List Value} (h : RepVs g vs us) : RepVs (g.callee ids) (V.renL (fun b => idx b ids 0) (fun _ => none) vs) us :=
  RepV.renL (g := g) (g' := g.callee ids) (fun b => idx b ids 0) (fun _ => none) (Ext.refl _ _) (fun b i hi B hB => by
    show (ids[i]?).bind g.β = _
    rw [idx_ids hi]
    exact hB) (fun κ i hi => by cases hi) vs us h
/-- What the caller sees behind the call. -/
def G.back (g g1 : G) (nk c : Nat) : G :=
  ⟨g1.w, g1.φ, g.β, fun κ => if nk ≤ κ ∧ κ < nk + c then g1.gk (κ - nk) else g.gk κ, fun κ => g.us κ ∨ (nk ≤ κ ∧ κ < nk + c)⟩
theorem back_rep (h : Rep N g vw a) {ids : List Nat} (hn : ids.Nodup) {g1 : G} {n : Nat} {out : Out} {e : Ending} (hok : OutOk (g.callee ids) g1 n out e) (hnl : n = ids.length)
    {nk c : Nat} (hc : c ≤ 16) (hm : c ≤ out.m) (hnk : ∀ κ, nk ≤ κ → κ < nk + 16 → ¬ g.us κ) {hw : List (Nat × Blk)}
    (hw1 : ∀ b x, lookB b hw = some x → ∃ (j : Nat) (sh : List Lf), ids[j]? = some b ∧ x = ⟨sh, begX (out.rows.getD (0 + j) [])⟩) (hw2 : ∀ b, b ∈ ids → (lookB b hw).isSome = true)
    {x : V} {v : Value} (hv : RepV (g.back g1 nk c) x v) : RepP g (g.back g1 nk c) ⟨x, hw, [], rangeN nk c⟩ v := by
  have hin : ∀ κ, g.us κ → ¬ (nk ≤ κ ∧ κ < nk + c) := fun κ hu hk => hnk κ hk.1 (by omega) hu
  have hst := hok.step
  have hmut : ∀ b, Mut (g.callee ids) b → ∃ i, i ∈ ids ∧ g.β i = some b := fun b hb => by
    rcases hb with ⟨i, hi⟩ | ⟨κ, e, s, u, hu, _⟩
    · have hi' : (ids[i]?).bind g.β = some b := hi
      rw [Option.bind_eq_some_iff] at hi'
      obtain ⟨q, h1, h2⟩ := hi'
      exact ⟨q, List.mem_of_getElem? h1, h2⟩
    · cases hu
  have hkeep : ∀ b, b < g.w.heap.size → (∀ i, i ∈ ids → g.β i ≠ some b) → g1.w.heap[b]? = g.w.heap[b]? ∧ g1.φ b = g.φ b := fun b hb hno =>
    hst.keep b hb (fun hm => by obtain ⟨i, h1, h2⟩ := hmut b hm; exact hno i h1 h2)
  have hk : Keeps g (g.back g1 nk c) := ⟨hst.ext, fun _ _ e => e, fun κ hu t ht => by
    have ht' : (if nk ≤ κ ∧ κ < nk + c then g1.gk (κ - nk) else g.gk κ) = some t := ht
    rw [if_neg (hin κ hu)] at ht'
    exact ht', fun _ e => .inl e⟩
  have hgk : ∀ κ t, (g.back g1 nk c).gk κ = some t → (nk ≤ κ ∧ κ < nk + c ∧ g1.gk (κ - nk) = some t) ∨ (¬ (nk ≤ κ ∧ κ < nk + c) ∧ g.gk κ = some t) := fun κ t ht => by
    have ht' : (if nk ≤ κ ∧ κ < nk + c then g1.gk (κ - nk) else g.gk κ) = some t := ht
    by_cases hq : nk ≤ κ ∧ κ < nk + c
    · rw [if_pos hq] at ht'
      exact .inl ⟨hq.1, hq.2, ht'⟩
    · rw [if_neg hq] at ht'
      exact .inr ⟨hq, ht'⟩
  have hold : ∀ κ e s u b, g.gk κ = some (e, s, u) → u.ownBlock = some b → g1.w.heap[b]? = g.w.heap[b]? ∧ g1.φ b = g.φ b := fun κ e s u b hu hb =>
    hkeep b ((h.own κ e s u hu).lt hb) (fun i _ hi => (h.own κ e s u hu).no b hb i hi)
  exact {
    step := ⟨hst.os, hst.tape, hst.output, hst.size, hst.ext, fun b hb hm => hkeep b hb (fun i _ hi => hm (.inl ⟨i, hi⟩)), fun b hb => by
      rcases hb with ⟨i, hi⟩ | ⟨κ, e, s, u, hu, hb⟩
      · exact .inl (.inl ⟨i, hi⟩)
      · rcases hgk κ _ hu with ⟨_, _, h1⟩ | ⟨_, h1⟩
        · exact .inr (hok.new _ _ _ _ b h1 hb)
        · exact .inl (.inr ⟨κ, e, s, u, h1, hb⟩)⟩
    keeps := hk
    val := hv
    fresh := hok.fresh
    hw := fun i x hx => by
      obtain ⟨j, sh, hj, rfl⟩ := hw1 i x hx
      rw [Nat.zero_add]
      have hjl : j < n := by rw [hnl]; exact (List.getElem?_eq_some_iff.1 hj).1
      obtain ⟨B, cs, T, hB, hc, hx, hφ⟩ := hok.rows j hjl
      have hB' : (ids[j]?).bind g.β = some B := hB
      rw [hj] at hB'
      refine ⟨B, hB', ⟨cs, T, hc, ?_⟩, hφ⟩
      have hd : ∀ (row : List D) (vs : List Value), RepXs g1 (begX row) vs → RepXs (g.back g1 nk c) (begX row) vs := by
        intro row
        induction row with
        | nil => intro vs hr; exact ⟨hr.1, fun j hj => absurd hj (by simp [begX])⟩
        | cons d row ih =>
          intro vs hr
          cases vs with
          | nil => exact absurd hr.1 (by simp [begX])
          | cons v vs => exact .cons (.d _ _ hr.head.1.toD) (ih vs hr.head.2)
      exact hd _ _ hx
    oth := fun i B hi hl => by
      refine hkeep B (h.lt i B hi) (fun j hj hB => ?_)
      have := h.inj i j B hi hB
      subst this
      have := hw2 i hj
      rw [hl] at this
      cases this
    new := fun i B hi => .inl hi
    use := fun κ hκ => by
      rcases hκ with hκ | hκ
      · exact .inl hκ
      · exact .inr ((rangeN_mem κ nk c).2 hκ)
    born := fun κ hκ => by
      have hr := (rangeN_mem κ nk c).1 hκ
      obtain ⟨⟨e, s, u⟩, ht⟩ := hok.alive (κ - nk) (by omega)
      refine ⟨e, s, u, ?_⟩
      show (if nk ≤ κ ∧ κ < nk + c then g1.gk (κ - nk) else g.gk κ) = _
      rw [if_pos hr]
      exact ht
    alive := fun κ ⟨e, s, u⟩ ht _ => by
      show (if nk ≤ κ ∧ κ < nk + c then g1.gk (κ - nk) else g.gk κ) = _
      rw [if_neg (hin κ (h.used κ e s u ht))]
      exact ht
    keys := fun κ e s u hu => by
      rcases hgk κ _ hu with ⟨h1, h2, h3⟩ | ⟨h1, h2⟩
      · refine .inr ⟨(rangeN_mem κ nk c).2 ⟨h1, h2⟩, ⟨?_, ?_⟩, .inr ⟨h1, h2⟩, fun b hb => .inl (hok.new _ _ _ _ b h3 hb), fun κ' e' s' u' b hu' hb hb' => ?_⟩
        · exact (hok.own _ _ _ _ h3).row
        · intro b hb i hi
          have := h.lt i b hi
          have := hok.new _ _ _ _ b h3 hb
          simp only [G.callee] at this
          omega
        · rcases hgk κ' _ hu' with ⟨k1, k2, k3⟩ | ⟨k1, k2⟩
          · have := hok.dist _ _ _ _ _ _ _ _ b h3 k3 hb hb'
            omega
          · have := (h.own κ' _ _ _ k2).lt hb'
            have := hok.new _ _ _ _ b h3 hb
            simp only [G.callee] at this
            omega
      · refine .inl ⟨?_, rfl, h2, fun b hb => hold κ e s u b h2 hb⟩
        cases hq : hasN κ (rangeN nk c)
        · rfl
        · exact absurd ((rangeN_mem κ nk c).1 hq) h1 }
theorem back_val {g1 : G} {nk c : Nat} {x : V} {v : Value} (hv : RepV g1 x v) : RepV (g.back g1 nk c) (x.ren (fun _ => none) (fun κ => cond (Nat.blt κ c) (some (nk + κ)) none)) v :=
  RepV.ren (g := g1) (g' := g.back g1 nk c) (fun _ => none) (fun κ => cond (Nat.blt κ c) (some (nk + κ)) none) (Ext.refl _ _) (fun b i hi => by cases hi) (fun κ i hi hu => by
    cases hq : Nat.blt κ c
    · rw [hq] at hi; cases hi
    · rw [hq] at hi
      cases hi
      have hlt : κ < c := by
        have := Nat.le_of_ble_eq_true hq
        omega
      refine ⟨.inr ⟨by omega, by omega⟩, fun t ht => ?_⟩
      have ht' : (if nk ≤ nk + κ ∧ nk + κ < nk + c then g1.gk (nk + κ - nk) else g.gk (nk + κ)) = some t := ht
      rw [if_pos ⟨by omega, by omega⟩, Nat.add_sub_cancel_left] at ht'
      exact ht') x v hv

/-- The call itself, at a point where its function and its arguments are known. -/
theorem ok_callK {w0 : World} (hΓ : SemOk P w0 Γ) (hs : Since w0 g) (h : Rep N g vw a) {f : FuncId} {vs : List V} {us : List Value} (hvs : RepVs g vs us) {nk : Nat} (hnk : ∀ κ, nk ≤ κ → κ < nk + 16 → ¬ g.us κ)
    (hrun : ∀ w, (callFunc f us.toArray).run P w = .ok (.enter f us.toArray) w → (execOp a.eval o).run P w = .ok (.enter f us.toArray) w) {r : Res}
    (hk : callK (α := Res) Γ shp f vs vw.heap nk (fun p => some (.inl p)) (fun d hw => some (.inr (d, hw))) = some r) : OpOk P o a g r := by
  unfold callK at hk
  obtain ⟨blks, rows, hk, hl1, hl2, hb⟩ := rowsK_some hk
  have hn := V.idsL_nodup vs [] (by simp)
  generalize V.idsL vs [] = ids at *
  rw [Option.bind_eq_some_iff] at hk
  obtain ⟨out, hout, hk⟩ := hk
  obtain ⟨hw, hk, hw1, hw2⟩ := backK_some hk
  have hen := callee_entry h hn hl2 hb
  obtain ⟨he, hcalls⟩ := hΓ f _ rows out hout (g.callee ids) us ⟨hs.below, fun b hb => hs.out b (by
    rcases hb with ⟨i, hi⟩ | ⟨κ, e, s, u, hu, _⟩
    · have hi' : (ids[i]?).bind g.β = some b := hi
      rw [Option.bind_eq_some_iff] at hi'
      obtain ⟨q, _, h2⟩ := hi'
      exact .inl ⟨q, h2⟩
    · cases hu)⟩ hen (callee_args hvs)
  have hrun' := hrun g.w (he g.w)
  cases hok : out.ok with
  | true =>
    rw [hok] at hk
    simp only [cond_true] at hk
    obtain ⟨x, c, hk, hx⟩ := castS_some _ hk
    obtain ⟨hc, hk⟩ := cond_some hk
    simp only [Bool.and_eq_true] at hc
    have hm := Nat.eq_of_beq_eq_true hc.1
    have hc16 := Nat.le_of_ble_eq_true hc.2
    cases hk
    intro K Q hK
    unfold Oper.wp
    rw [hrun', Oper.upon_enter]
    refine hcalls.mono ?_
    rintro e w' ⟨g1, rfl, ho⟩
    obtain ⟨v, rfl, hv⟩ := ho.ok hok
    exact hK (g.back g1 nk c) v (back_rep h hn ho (by rw [hl2]) hc16 (by omega) hnk hw1 hw2 (back_val (hx g1 v hv)))
  | false =>
    rw [hok] at hk
    simp only [cond_false] at hk
    cases hk
    intro K Q hK
    unfold Oper.wp
    rw [hrun', Oper.upon_enter]
    refine hcalls.mono ?_
    rintro e w' ⟨g1, rfl, ho⟩
    obtain ⟨u, rfl, hu⟩ := ho.pan hok
    exact hK (g.back g1 nk 0) u (back_rep h hn ho (by rw [hl2]) (c := 0) (by omega) (by omega) hnk hw1 hw2 (.junk _)) hu
theorem ok_call {w0 : World} (hΓ : SemOk P w0 Γ) (hs : Since w0 g) (h : Rep N g vw a) {f : FuncId} {xs : Array Operand} {ts : Array TypeId} (ho : o.op = .call { callee := .value (.func f), args := xs, argTypes := ts }) {ys : List SArg} (hxs : args P ts.toList xs.toList = some ys)
    {nk : Nat} (hnk : ∀ κ, nk ≤ κ → κ < nk + 16 → ¬ g.us κ) {r : Res} (hk : callK (α := Res) Γ shp f (evL vw.env ys) vw.heap nk (fun p => some (.inl p)) (fun d hw => some (.inr (d, hw))) = some r) : OpOk P o a g r := by
  refine ok_callK hΓ hs h (args_rep h hxs) hnk (fun w hw => ?_) hk
  have e : (xs.toList.map a.eval).toArray = xs.map a.eval := by rw [← Array.toList_map, Array.toArray_toList]
  rw [e] at hw ⊢
  have e2 : a.eval (.func f) = .func (.func f) #[] #[] := rfl
  simp [execOp, ho, resolve, Deferred.ofValue, invoke, e2, hw]
theorem ones_rep : ∀ {caps : List X} {us : List Value}, RepXs g caps us → RepVs g (caps.map .one) us
  | [], us, h => ⟨h.1, fun j hj => absurd hj (by simp)⟩
  | x :: caps, us, h => by
    cases us with
    | nil => exact absurd h.1 (by simp)
    | cons u us => exact .cons (.one _ _ h.head.1) (ones_rep h.head.2)
theorem RepVs.append {cs ds : List V} {vs us : List Value} (h : RepVs g cs vs) (h' : RepVs g ds us) : RepVs g (cs ++ ds) (vs ++ us) := by
  induction cs generalizing vs with
  | nil =>
    have : vs = [] := List.eq_nil_of_length_eq_zero h.1
    subst this
    exact h'
  | cons x xs ih =>
    cases vs with
    | nil => exact absurd h.1 (by simp)
    | cons v vs => exact .cons h.head.1 (ih h.head.2)
theorem ok_callv {w0 : World} (hΓ : SemOk P w0 Γ) (hs : Since w0 g) (h : Rep N g vw a) {x : Operand} {xs : Array Operand} {ts : Array TypeId} (ho : o.op = .call { callee := .value x, args := xs, argTypes := ts }) {ys : List SArg} (hxs : args P ts.toList xs.toList = some ys)
    {f : FuncId} {caps : List X} (hx : RepV g (.one (.fn f caps)) (a.eval x))
    {nk : Nat} (hnk : ∀ κ, nk ≤ κ → κ < nk + 16 → ¬ g.us κ) {r : Res} (hk : callK (α := Res) Γ shp f (evL vw.env ys ++ caps.map .one) vw.heap nk (fun p => some (.inl p)) (fun d hw => some (.inr (d, hw))) = some r) : OpOk P o a g r := by
  generalize he : a.eval x = v at hx
  cases hx with
  | one _ _ hx =>
    cases hx with
    | fn _ _ us hl hr =>
      refine ok_callK hΓ hs h (RepVs.append (args_rep h hxs) (ones_rep ⟨hl, hr⟩)) hnk (fun w hw => ?_) hk
      have e : (xs.toList.map a.eval ++ us).toArray = xs.map a.eval ++ us.toArray := by
        rw [← Array.toList_map]; simp
      rw [e] at hw ⊢
      simp [execOp, ho, resolve, Deferred.ofValue, invoke, he, hw]
end
end Go.Proofs.YtkpdofiflhjahaaDoor.Ps
