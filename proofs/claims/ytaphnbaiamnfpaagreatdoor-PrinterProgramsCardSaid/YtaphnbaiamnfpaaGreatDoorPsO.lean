/- Every operation that is put into the small language does what it says there. -/
import Derived.Test.YtaphnbaiamnfpaaGreatDoorPsN
namespace Go.Proofs.YtaphnbaiamnfpaaGreatDoor.Ps
set_option linter.unusedVariables false
set_option linter.unusedSimpArgs false
open Go Go.RowKit

section
variable {P : Program} {o : Oper} {a : Act} {N : Nat} {g : G} {vw : View} {Γ : SemL} {shp : FuncId → Sh}
theorem some_inl {p : Patch} {r : Res} (h : (some (.inl p) : Option Res) = some r) : r = .inl p := by cases h; rfl
theorem gInt_at (h : Rep N g vw a) {k : IntKind} {x : Operand} {t : TypeId} {y : SArg} (hy : arg P t x = some y) {K : Int → Option Res} {r : Res} (hr : gInt k (ev vw.env y) K = some r) : ∃ n, a.eval x = .int k n ∧ K n = some r := by
  obtain ⟨n, e, hk⟩ := gInt_some hr
  have := arg_rep h hy
  rw [e] at this
  exact ⟨n, this.int_eq, hk⟩
theorem gBool_at (h : Rep N g vw a) {x : Operand} {t : TypeId} {y : SArg} (hy : arg P t x = some y) {K : Bool → Option Res} {r : Res} (hr : gBool (ev vw.env y) K = some r) : ∃ n, a.eval x = .bool n ∧ K n = some r := by
  obtain ⟨n, e, hk⟩ := gBool_some hr
  have := arg_rep h hy
  rw [e] at this
  exact ⟨n, this.bool_eq, hk⟩
theorem gStr_at (h : Rep N g vw a) {x : Operand} {t : TypeId} {y : SArg} (hy : arg P t x = some y) {K : ByteArray → Option Res} {r : Res} (hr : gStr (ev vw.env y) K = some r) : ∃ n, a.eval x = .string n ∧ K n = some r := by
  obtain ⟨n, e, hk⟩ := gStr_some hr
  have := arg_rep h hy
  rw [e] at this
  exact ⟨n, this.str_eq, hk⟩
theorem gList_at (h : Rep N g vw a) {sz : Nat} {x : Operand} {t : TypeId} {y : SArg} (hy : arg P t x = some y) {K : List (List D) → Option Res} {r : Res} (hr : gList sz (ev vw.env y) K = some r) : ∃ n, RepD g.w g.φ (.list sz n) (a.eval x) ∧ K n = some r := by
  obtain ⟨n, hk, e⟩ := gList_some hr
  exact ⟨n, RepV.list e (arg_rep h hy), hk⟩
theorem gCells_at (h : Rep N g vw a) {x : Operand} {t : TypeId} {y : SArg} (hy : arg P t x = some y) {K : List X → Option Res} {r : Res} (hr : gCells (ev vw.env y) K = some r) : ∃ n, RepXs g n (a.eval x).cells.toList ∧ K n = some r := by
  obtain ⟨n, hk, e⟩ := gCells_some hr
  exact ⟨n, V.cells_rep e (arg_rep h hy), hk⟩
theorem gPtr_at (h : Rep N g vw a) {x : Operand} {t : TypeId} {y : SArg} (hy : arg P t x = some y) {Kp : Nat → Nat → Option Res} {Kr : Nat → List D → Nat → Option Res} {r : Res} (hr : gPtr (ev vw.env y) Kp Kr = some r) :
    (∃ b off, RepV g (.one (.ptr b off)) (a.eval x) ∧ Kp b off = some r) ∨ (∃ sz row off, RepV g (.one (.rptr sz row off)) (a.eval x) ∧ Kr sz row off = some r) := by
  have := arg_rep h hy
  rcases gPtr_some hr with ⟨b, off, e, hk⟩ | ⟨sz, row, off, e, hk⟩
  · rw [e] at this; exact .inl ⟨b, off, this, hk⟩
  · rw [e] at this; exact .inr ⟨sz, row, off, this, hk⟩
theorem optK_at (h : Rep N g vw a) {d : Int} {lo : Option Operand} {y : Option SArg} (hy : optA P 0 lo = some y) {K : Int → Option Res} {r : Res} (hr : optK vw.env d y K = some r) :
    ∃ n, ((lo = none ∧ n = d) ∨ ∃ x, lo = some x ∧ a.eval x = .int .i64 n) ∧ K n = some r := by
  unfold optA at hy
  split at hy
  · cases hy; exact ⟨d, .inl ⟨rfl, rfl⟩, hr⟩
  · rename_i x
    split at hy
    · rename_i z hz
      cases hy
      obtain ⟨n, hn, hk⟩ := gInt_at h hz hr
      exact ⟨n, .inr ⟨x, rfl, hn⟩, hk⟩
    · cases hy
theorem capsK_at (h : Rep N g vw a) : ∀ {xs : List Operand} {ts : List TypeId} {ys : List SArg}, args P ts xs = some ys → ∀ {K : List X → Option Res} {r : Res}, capsK vw.env ys K = some r → ∃ cs, RepXs g cs (xs.map a.eval) ∧ K cs = some r
  | [], ts, ys, hx, K, r, hk => by cases hx; exact ⟨[], .nil g, hk⟩
  | x :: xs, ts, ys, hx, K, r, hk => by
    unfold args at hx
    split at hx
    · rename_i y zs h1 h2
      cases hx
      unfold capsK at hk
      have hrep := arg_rep h h1
      split at hk
      · rename_i z hz
        rw [hz] at hrep
        obtain ⟨cs, h3, h4⟩ := capsK_at h h2 hk
        cases hrep with
        | one _ _ hrep => exact ⟨z :: cs, .cons hrep h3, h4⟩
      · cases hk
    · cases hx

def G.allocB (g : G) (nb nk : Nat) (T e : TypeId) : G :=
  { g with w := g.w.alloc (.cells #[.pointer none, .slice none 0 0] T), β := (fun i => if i = nb then some g.w.heap.size else g.β i), gk := (fun κ => if κ = nk then some (e, 1, .slice none 0 0) else g.gk κ), us := fun κ => κ = nk ∨ g.us κ }
theorem RepP.allocB (h : Rep N g vw a) {nb nk : Nat} (hn : g.β nb = none) (hnk : ¬ g.us nk) (T e : TypeId) (hT : T = bldTy) :
    RepP g (g.allocB nb nk T e) ⟨.one (.ptr nb 0), [(nb, ⟨[.slf, .own e 1], [.slf nb, .own nk e 1 []]⟩)], [], [nk]⟩ (.pointer (some ⟨g.w.heap.size, 0, none⟩)) := by
  have hβ : ∀ i B, g.β i = some B → (g.allocB nb nk T e).β i = some B := fun i B hi => by
    have : i ≠ nb := fun e => by subst e; rw [hn] at hi; cases hi
    show (if i = nb then _ else _) = _
    rw [if_neg this]
    exact hi
  have hgk : ∀ κ t, (g.allocB nb nk T e).gk κ = some t → (κ = nk ∧ t = (e, 1, .slice none 0 0)) ∨ (κ ≠ nk ∧ g.gk κ = some t) := fun κ t ht => by
    have ht' : (if κ = nk then some (e, 1, .slice none 0 0) else g.gk κ) = some t := ht
    by_cases hq : κ = nk
    · rw [if_pos hq] at ht'
      cases ht'
      exact .inl ⟨hq, rfl⟩
    · rw [if_neg hq] at ht'
      exact .inr ⟨hq, ht'⟩
  have hk : Keeps g (g.allocB nb nk T e) := ⟨ext_alloc _ h.fresh (fun _ => Nat.le_refl _), hβ, (fun κ hκ t ht => by
    rcases hgk κ t ht with ⟨rfl, _⟩ | ⟨_, h1⟩
    · exact absurd hκ hnk
    · exact h1), fun _ e => .inr e, fun i B T' hi ⟨c, f, hc⟩ => ⟨c, f, (Go.heap_alloc_old _ _ (h.lt i B hi)).trans hc⟩⟩
  have hβn : (g.allocB nb nk T e).β nb = some g.w.heap.size := if_pos rfl
  have hsz : (g.allocB nb nk T e).w.heap.size = g.w.heap.size + 1 := size_alloc _ _
  exact {
    step := ⟨rfl, rfl, rfl, by rw [hsz]; omega, hk.ext, fun b hb _ => ⟨Go.heap_alloc_old _ _ hb, rfl⟩, fun b hb => by
      rcases hb with ⟨i, hi⟩ | ⟨κ, e', s, u, hu, hb⟩
      · by_cases e : i = nb
        · subst e
          rw [hβn] at hi
          cases hi
          exact .inr (Nat.le_refl _)
        · exact .inl (.inl ⟨i, by rw [← hi]; exact (if_neg e).symm⟩)
      · rcases hgk κ _ hu with ⟨_, h1⟩ | ⟨_, h1⟩
        · cases h1; cases hb
        · exact .inl (.inr ⟨κ, e', s, u, h1, hb⟩)⟩
    keeps := hk
    val := .one _ _ (.ptr nb g.w.heap.size 0 hβn)
    fresh := fun b hb => h.fresh b (by rw [hsz] at hb; omega)
    hw := fun i x hx => by
      simp only [lookB] at hx
      cases hq : Nat.beq nb i
      · rw [hq] at hx; cases hx
      · rw [hq] at hx
        have e := Nat.eq_of_beq_eq_true hq
        subst e
        cases hx
        exact ⟨_, hβn, ⟨_, T, heap_alloc_new _ _, .cons (.slf0 _ _ hβn ⟨_, _, by subst hT; exact heap_alloc_new _ _⟩) (.cons (.own _ _ _ _ _ (.nil 1 none 0) (fun e' s' u hu => by
          rcases hgk _ _ hu with ⟨_, h1⟩ | ⟨h1, _⟩
          · cases h1; exact ⟨rfl, rfl, rfl⟩
          · exact absurd rfl h1) (.inl rfl)) (.nil _))⟩, h.fresh _ (Nat.le_refl _)⟩
    oth := fun i B hi _ => ⟨Go.heap_alloc_old _ _ (h.lt i B hi), rfl⟩
    new := fun i B hi => by
      by_cases e : i = nb
      · subst e
        rw [hβn] at hi
        cases hi
        refine .inr ⟨hn, Nat.le_refl _, by rw [hsz]; omega, by simp [lookB], fun j hj => ?_⟩
        by_cases e : j = i
        · exact e
        · have : g.β j = some g.w.heap.size := by rw [← hj]; exact (if_neg e).symm
          have := h.lt j _ this
          omega
      · exact .inl (by rw [← hi]; exact (if_neg e).symm)
    born := fun κ hκ => by
      have := (hasN_iff κ [nk]).1 hκ
      rw [List.mem_singleton] at this
      exact ⟨e, 1, .slice none 0 0, if_pos this⟩
    use := fun κ hκ => by
      rcases hκ with rfl | hκ
      · exact .inr (by simp [hasN])
      · exact .inl hκ
    alive := fun κ t ht _ => by
      obtain ⟨e', s, u⟩ := t
      have hne : κ ≠ nk := fun q => hnk (q ▸ h.used κ e' s u ht)
      show (if κ = nk then _ else _) = _
      rw [if_neg hne]
      exact ht
    keys := fun κ e' s u hu => by
      rcases hgk κ _ hu with ⟨rfl, h1⟩ | ⟨hne, h1⟩
      · cases h1
        exact .inr ⟨by simp [hasN], ⟨⟨0, [], World.ownsRow_nil _ _ _ _, fun b hb => by cases hb⟩, fun b hb => by cases hb⟩, .inl rfl, (fun b hb => by cases hb), fun κ' e' s' u' b _ hb => by cases hb⟩
      · refine .inl ⟨?_, rfl, h1, fun b hb => ⟨Go.heap_alloc_old _ _ ((h.own κ e' s u h1).lt hb), rfl⟩⟩
        cases hq : hasN κ [nk]
        · rfl
        · have := (hasN_iff κ [nk]).1 hq
          rw [List.mem_singleton] at this
          exact absurd this hne }
theorem ok_allocB (h : Rep N g vw a) {nb nk : Nat} (hn : g.β nb = none) (hnk : ¬ g.us nk) {e : TypeId} (ho : o.op = .alloc e) (u : TypeId) (hz : (bldZ P e && Nat.beq e bldTy) = true) :
    OpOk P o a g (.inl ⟨.one (.ptr nb 0), [(nb, ⟨[.slf, .own u 1], [.slf nb, .own nk u 1 []]⟩)], [], [nk]⟩) := by
  rw [Bool.and_eq_true] at hz
  obtain ⟨hz, hT⟩ := hz
  have hT := Nat.eq_of_beq_eq_true hT
  unfold bldZ at hz
  split at hz
  · rename_i i hi
    split at hz
    · rename_i z hzz
      split at hz
      · rename_i hc
        intro K Q hK
        refine wp_value (v := .pointer (some ⟨g.w.heap.size, 0, none⟩)) ?_ (hK _ _ (RepP.allocB h hn hnk e u hT))
        have e1 : z.cells = #[.pointer none, .slice none 0 0] := by rw [← Array.toList_inj]; exact hc
        simp only [execOp, ho]
        rw [Sem.run_bind, run_alloc g.w e i z hi hzz, e1]
        rfl
      · cases hz
    · cases hz
  · cases hz
theorem ok_boxB (h : Rep N g vw a) {nb nk : Nat} (hn : g.β nb = none) (hnk : ¬ g.us nk) {e : TypeId} {x : Operand} (ho : o.op = .box e x) (u : TypeId) (hT : e = bldTy) (hx : RepXs g [.d .nilP, .nilL 1] (a.eval x).cells.toList) :
    OpOk P o a g (.inl ⟨.one (.ptr nb 0), [(nb, ⟨[.slf, .own u 1], [.slf nb, .own nk u 1 []]⟩)], [], [nk]⟩) := by
  have e1 : (a.eval x).cells = #[.pointer none, .slice none 0 0] := by
    rw [← Array.toList_inj]
    generalize (a.eval x).cells.toList = l at hx
    match l, hx.1 with
    | [p, q], _ =>
      have h1 := hx.head.1
      have h2 := hx.head.2.head.1
      have e1 : p = .pointer none := by cases h1 with | d _ _ h => cases h; rfl
      have e2 : q = .slice none 0 0 := by cases h2; rfl
      rw [e1, e2]
  intro K Q hK
  refine wp_value (v := .pointer (some ⟨g.w.heap.size, 0, none⟩)) ?_ (hK _ _ (RepP.allocB h hn hnk e u hT))
  simp only [execOp, ho]
  simp only [Instr.box, newVar, newRow, newObj, Sem.run_bind, Sem.run, Result.andThen_ok, Bind.bind, Sem.bind, Pure.pure, e1]
  rfl
theorem comp_ok {w0 : World} (hΓ : SemOk P w0 Γ) (hs : Since w0 g) {so : SOp} (hc : comp P o = some so) (h : Rep N g vw a) {nb nk : Nat} (hnb : g.β nb = none) (hnk : ∀ κ, nk ≤ κ → κ < nk + 16 → ¬ g.us κ) {r : Res} (hr : aop1 Γ shp so nb nk vw = some r) : OpOk P o a g r := by
  have hnk0 : ¬ g.us nk := hnk nk (Nat.le_refl _) (by omega)
  unfold comp at hc
  unfold aop1 at hr
  split at hc
  · rename_i x ho
    obtain ⟨y, hy, rfl⟩ := map_some hc
    cases some_inl hr
    exact ok_mov h (.inl ho) hy
  · rename_i x ho
    obtain ⟨y, hy, rfl⟩ := map_some hc
    cases some_inl hr
    exact ok_mov h (.inr ho) hy
  · rename_i c x z ho
    split at hc
    · rename_i c' x' z' h1 h2 h3
      cases hc
      simp only [aopK] at hr
      obtain ⟨b, e, hr⟩ := gBool_some hr
      have := ok_pick h ho h1 h2 h3 b e
      cases b
      · cases some_inl hr; exact this
      · cases some_inl hr; exact this
    · cases hc
  · rename_i e ho
    split at hc
    · rename_i u hu
      obtain ⟨hz, hc⟩ := cond_some hc
      cases hc
      cases some_inl hr
      exact ok_allocB h hnb hnk0 ho u hz
    · obtain ⟨y, hy, rfl⟩ := map_some hc
      cases some_inl hr
      exact ok_alloc h hnb ho _ hy
  · rename_i e x ho
    split at hc
    · rename_i u hu
      obtain ⟨hT, hc⟩ := cond_some hc
      have hT := Nat.eq_of_beq_eq_true hT
      obtain ⟨y, hy, rfl⟩ := map_some hc
      simp only [aopK] at hr
      obtain ⟨cs, hcs, hr⟩ := gCells_at h hy hr
      split at hr
      · cases some_inl hr
        exact ok_boxB h hnb hnk0 ho u hT hcs
      · cases hr
    · obtain ⟨y, hy, rfl⟩ := map_some hc
      simp only [aopK] at hr
      obtain ⟨cs, hcs, hr⟩ := gCells_at h hy hr
      cases some_inl hr
      exact ok_box h hnb ho _ hcs
  · rename_i t parts ho
    split at hc
    · rename_i fs hfs
      split at hc
      · rename_i places hp
        obtain ⟨zr, sp, hz, hs, rfl⟩ := ap2_some hc
        simp only [aopK] at hr
        have e := partsK_push (fun cs => some (.inl ⟨.agg cs, [], [], []⟩ : Res)) vw.env sp zr some
        have hr' : partsK vw.env sp zr (fun cs => some (.inl ⟨.agg cs, [], [], []⟩ : Res)) = some r := hr
        rw [show (fun cs => some (.inl ⟨.agg cs, [], [], []⟩ : Res)) = (fun x => (some x).bind fun cs => some (.inl ⟨.agg cs, [], [], []⟩ : Res)) from rfl, ← e, Option.bind_eq_some_iff] at hr'
        obtain ⟨cs, h1, h2⟩ := hr'
        cases some_inl h2
        exact ok_build h ho hfs hz hp hs h1
      · cases hc
    · cases hc
  · rename_i t len parts ho
    split at hc
    · rename_i e ht
      split at hc
      · rename_i ti hti
        obtain ⟨h1, hc⟩ := cond_some hc
        obtain ⟨sp, hs, rfl⟩ := map_some hc
        simp only [Bool.and_eq_true] at h1
        obtain ⟨⟨⟨h1, h2⟩, h3⟩, h4⟩ := h1
        obtain ⟨z, hz⟩ := Option.isSome_iff_exists.1 h3
        simp only [aopK] at hr
        have e1 := litK_push (fun rows => some (.inl ⟨.one (.own nk e ti.size rows), [], [], [nk]⟩ : Res)) vw.env ti.size sp some
        have hr' : litK vw.env ti.size sp (fun rows => some (.inl ⟨.one (.own nk e ti.size rows), [], [], [nk]⟩ : Res)) = some r := hr
        rw [show (fun rows => some (.inl ⟨.one (.own nk e ti.size rows), [], [], [nk]⟩ : Res)) = (fun x => (some x).bind fun rows => some (.inl ⟨.one (.own nk e ti.size rows), [], [], [nk]⟩ : Res)) from rfl, ← e1, Option.bind_eq_some_iff] at hr'
        obtain ⟨rows, h5, h6⟩ := hr'
        cases some_inl h6
        have h2' := Nat.le_of_ble_eq_true h2
        exact ok_lit h ho ht hti hz (Nat.le_of_ble_eq_true h1) (by unfold maxLen; omega) hs (Nat.eq_of_beq_eq_true h4) hnk0 h5
      · cases hc
    · cases hc
  · rename_i t x ho
    split at hc
    · rename_i d ti hd hti
      obtain ⟨y, hy, rfl⟩ := map_some hc
      cases hag : isAg d with
      | true =>
        rw [hag] at hr
        simp only [aopK] at hr
        rcases gPtr_at h hy hr with ⟨b, off, hx, hr⟩ | ⟨sz, row, off, hx, hr⟩
        · obtain ⟨blk, hb, hr⟩ := gBlk_some hr
          obtain ⟨h1, hr⟩ := cond_some hr
          cases some_inl hr
          exact ok_load_b h ho hti hd hag hx hb (Nat.le_of_ble_eq_true h1)
        · obtain ⟨h1, hr⟩ := cond_some hr
          cases some_inl hr
          exact ok_load_r h ho hti hd hag hx (Nat.le_of_ble_eq_true h1)
      | false =>
        rw [hag] at hr
        simp only [aopK] at hr
        rcases gPtr_at h hy hr with ⟨b, off, hx, hr⟩ | ⟨sz, row, off, hx, hr⟩
        · obtain ⟨blk, hb, hr⟩ := gBlk_some hr
          obtain ⟨h1, hr⟩ := cond_some hr
          cases some_inl hr
          exact ok_load1_b h ho hd hag hx hb (Nat.le_of_ble_eq_true h1)
        · obtain ⟨h1, hr⟩ := cond_some hr
          cases some_inl hr
          exact ok_load1_r h ho hd hag hx (Nat.le_of_ble_eq_true h1)
    · cases hc
  · rename_i t x y ho
    split at hc
    · rename_i ti hti
      obtain ⟨x', y', hx, hy, rfl⟩ := ap2_some hc
      simp only [aopK] at hr
      rcases gPtr_at h hx hr with ⟨b, off, hx, hr⟩ | ⟨sz, row, off, hx, hr⟩
      · obtain ⟨blk, hb, hr⟩ := gBlk_some hr
        obtain ⟨cs, hcs, hr⟩ := gCells_at h hy hr
        obtain ⟨h1, hr⟩ := cond_some hr
        simp only [Bool.and_eq_true] at h1
        cases some_inl hr
        exact ok_store h ho hti hx hb hcs (Nat.eq_of_beq_eq_true h1.1) (Nat.le_of_ble_eq_true h1.2)
      · cases hr
    · cases hc
  · rename_i s x i ho
    split at hc
    · rename_i fs hs
      split at hc
      · rename_i f hf
        split at hc
        · rename_i ti hti
          cases hz : Nat.beq ti.size 0 with
          | true => rw [hz] at hc; cases hc
          | false =>
            rw [hz] at hc
            have hc' : ((arg P 0 x).map (.faddr f.offset)) = some so := hc
            obtain ⟨y, hy, rfl⟩ := map_some hc'
            have hz' : ti.size ≠ 0 := fun e => by rw [e] at hz; cases hz
            simp only [aopK] at hr
            rcases gPtr_at h hy hr with ⟨b, off, hx, hr⟩ | ⟨sz, row, off, hx, hr⟩
            · cases some_inl hr; exact ok_faddr_b h ho hs hf hti hz' hx
            · cases some_inl hr; exact ok_faddr_r h ho hs hf hti hz' hx
        · cases hc
      · cases hc
    · cases hc
  · rename_i s x i ho
    split at hc
    · rename_i fs hs
      split at hc
      · rename_i f hf
        split at hc
        · rename_i d ti hd hti
          obtain ⟨y, hy, rfl⟩ := map_some hc
          have hrep := arg_rep h hy
          cases hag : isAg d with
          | true =>
            rw [hag] at hr
            simp only [aopK] at hr
            split at hr
            · rename_i cs he
              rw [he] at hrep
              obtain ⟨h1, hr⟩ := cond_some hr
              cases some_inl hr
              exact ok_field h ho hs hf hti hd hag hrep (Nat.le_of_ble_eq_true h1)
            · cases hr
          | false =>
            rw [hag] at hr
            simp only [aopK] at hr
            split at hr
            · rename_i cs he
              rw [he] at hrep
              obtain ⟨h1, hr⟩ := cond_some hr
              cases some_inl hr
              exact ok_field1 h ho hs hf hd hag hrep (Nat.le_of_ble_eq_true h1)
            · cases hr
        · cases hc
      · cases hc
    · cases hc
  · rename_i t x i ho
    split at hc
    · rename_i e ht
      split at hc
      · rename_i ti hti
        obtain ⟨x', i', hx, hi, rfl⟩ := ap2_some hc
        simp only [aopK] at hr
        obtain ⟨rows, hrows, hr⟩ := gList_at h hx hr
        obtain ⟨n, hn, hr⟩ := gInt_at h hi hr
        obtain ⟨h1, hr⟩ := cond_some hr
        simp only [Bool.and_eq_true, decide_eq_true_eq] at h1
        cases some_inl hr
        exact ok_iaddr h ho ht hti hrows hn h1.1 h1.2
      · cases hc
    · rename_i len e ht
      split at hc
      · rename_i ti hti
        obtain ⟨x', i', hx, hi, rfl⟩ := ap2_some hc
        simp only [aopK] at hr
        rcases gPtr_at h hx hr with ⟨b, off, hx, hr⟩ | ⟨sz, row, off, hx, hr⟩
        · obtain ⟨n, hn, hr⟩ := gInt_at h hi hr
          obtain ⟨h1, hr⟩ := cond_some hr
          simp only [Bool.and_eq_true, decide_eq_true_eq] at h1
          cases some_inl hr
          exact ok_aaddr_b h ho ht hti hx hn h1.1 h1.2
        · obtain ⟨n, hn, hr⟩ := gInt_at h hi hr
          obtain ⟨h1, hr⟩ := cond_some hr
          simp only [Bool.and_eq_true, decide_eq_true_eq] at h1
          cases some_inl hr
          exact ok_aaddr_r h ho ht hti hx hn h1.1 h1.2
      · cases hc
    · cases hc
  · rename_i t x i ho
    split at hc
    · rename_i ht
      obtain ⟨x', i', hx, hi, rfl⟩ := ap2_some hc
      simp only [aopK] at hr
      obtain ⟨s, hs, hr⟩ := gStr_at h hx hr
      obtain ⟨n, hn, hr⟩ := gInt_at h hi hr
      obtain ⟨h1, hr⟩ := cond_some hr
      simp only [Bool.and_eq_true, decide_eq_true_eq] at h1
      cases some_inl hr
      exact ok_chr h ht ho hs hn h1.1 h1.2
    · cases hc
  · rename_i t x lo hi ho
    split at hc
    · rename_i ht
      split at hc
      · rename_i x' lo' hi' hx hlo hhi
        cases hc
        simp only [aopK] at hr
        obtain ⟨s, hs, hr⟩ := gStr_at h hx hr
        obtain ⟨u, hu, hr⟩ := optK_at h hhi hr
        obtain ⟨l, hl, hr⟩ := optK_at h hlo hr
        obtain ⟨h1, hr⟩ := cond_some hr
        simp only [Bool.and_eq_true, decide_eq_true_eq] at h1
        obtain ⟨⟨⟨h1, h2⟩, h3⟩, h4⟩ := h1
        cases some_inl hr
        exact ok_sub h ht ho hs hl hu h1 h2 h3 h4
      · cases hc
    · rename_i e ht
      split at hc
      · rename_i ti hti
        split at hc
        · rename_i x' lo' hi' hx hlo hhi
          cases hc
          simp only [aopK] at hr
          obtain ⟨s, hs, hr⟩ := gList_at h hx hr
          obtain ⟨u, hu, hr⟩ := optK_at h hhi hr
          obtain ⟨l, hl, hr⟩ := optK_at h hlo hr
          obtain ⟨h1, hr⟩ := cond_some hr
          simp only [Bool.and_eq_true, decide_eq_true_eq] at h1
          obtain ⟨⟨⟨h1, h2⟩, h3⟩, h4⟩ := h1
          cases some_inl hr
          exact ok_subl h ht hti ho hs hl hu h1 h2 h3 h4
        · cases hc
      · cases hc
    · cases hc
  · rename_i op t x y ty ho
    split at hc
    · rename_i k ht
      obtain ⟨x', y', hx, hy, rfl⟩ := ap2_some hc
      simp only [aopK] at hr
      obtain ⟨m, hm, hr⟩ := gInt_at h hx hr
      obtain ⟨n, hn, hr⟩ := gInt_at h hy hr
      have hr' : ibinK k op m n (fun d => (some d).bind fun d => some (.inl ⟨dv d, [], [], []⟩ : Res)) = some r := hr
      rw [← ibinK_push, Option.bind_eq_some_iff] at hr'
      obtain ⟨d, h1, h2⟩ := hr'
      cases some_inl h2
      exact ok_ibin h ho hm hn h1
    · obtain ⟨x', y', hx, hy, rfl⟩ := ap2_some hc
      simp only [aopK] at hr
      obtain ⟨m, hm, hr⟩ := gStr_at h hx hr
      obtain ⟨n, hn, hr⟩ := gStr_at h hy hr
      have hr' : sbinK op m n (fun d => (some d).bind fun d => some (.inl ⟨dv d, [], [], []⟩ : Res)) = some r := hr
      rw [← sbinK_push, Option.bind_eq_some_iff] at hr'
      obtain ⟨d, h1, h2⟩ := hr'
      cases some_inl h2
      exact ok_sbin h ho hm hn h1
    · rename_i ht
      obtain ⟨x', y', hx, hy, rfl⟩ := ap2_some hc
      simp only [aopK] at hr
      obtain ⟨m, hm, hr⟩ := gBool_at h hx hr
      obtain ⟨n, hn, hr⟩ := gBool_at h hy hr
      have hr' : bbinK op m n (fun d => (some d).bind fun d => some (.inl ⟨dv d, [], [], []⟩ : Res)) = some r := hr
      rw [← bbinK_push, Option.bind_eq_some_iff] at hr'
      obtain ⟨d, h1, h2⟩ := hr'
      cases some_inl h2
      exact ok_bbin h ht ho hm hn h1
    · rename_i ms ht
      obtain ⟨hn, hc⟩ := cond_some hc
      have hy : y = .const .nilIface := by
        unfold isNilC at hn
        split at hn <;> first | rfl | cases hn
      subst hy
      have main : ∀ (neg : Bool) (x' : SArg), arg P t x = some x' → o.op = .binOp (if neg then .neq else .eql) t x (.const .nilIface) ty → aopK (α := Res) Γ shp (.inil neg x') nb nk vw (fun p => some (.inl p)) (fun d hw => some (.inr (d, hw))) = some r → OpOk P o a g r := fun neg x' hx ho hr => by
        simp only [aopK] at hr
        split at hr
        · rename_i d he
          have hrep := arg_rep h hx
          rw [he] at hrep
          have hd : RepD g.w g.φ d (a.eval x) := by cases hrep with | one _ _ hq => cases hq with | d _ _ hq => exact hq
          cases h1 : d.isNilI with
          | true =>
            rw [h1] at hr
            cases some_inl hr
            exact ok_inil h ht ho hd (.inl ⟨D.isNilI_eq h1, rfl⟩)
          | false =>
            rw [h1] at hr
            obtain ⟨h2, hr⟩ := cond_some hr
            cases some_inl hr
            exact ok_inil h ht ho hd (.inr ⟨h2, rfl⟩)
        · cases hr
      split at hc
      · obtain ⟨x', hx, rfl⟩ := map_some hc
        exact main false x' hx ho hr
      · obtain ⟨x', hx, rfl⟩ := map_some hc
        exact main true x' hx ho hr
      · cases hc
    · rename_i fs ht
      split at hc
      · rename_i ls hls
        cases hst : P.stoodInHeld t with
        | true => rw [hst] at hc; cases hc
        | false =>
          cases hg : P.eqGuardType P.depth t with
          | true => rw [hst, hg] at hc; cases hc
          | false =>
            rw [hst, hg] at hc
            have main : ∀ (neg : Bool) (x' y' : SArg), arg P t x = some x' → arg P t y = some y' → o.op = .binOp (if neg then .neq else .eql) t x y ty → aopK (α := Res) Γ shp (.aeq neg ls x' y') nb nk vw (fun p => some (.inl p)) (fun d hw => some (.inr (d, hw))) = some r → OpOk P o a g r := fun neg x' y' hx hy ho hr => by
              simp only [aopK] at hr
              split at hr
              · rename_i xs ys hex hey
                have hrx := arg_rep h hx
                rw [hex] at hrx
                have hry := arg_rep h hy
                rw [hey] at hry
                obtain ⟨h1, hr⟩ := cond_some hr
                simp only [Bool.and_eq_true] at h1
                have hr' : eqLs ls xs ys (fun q => (some q).bind fun q => some (.inl ⟨dv (.bool (cond neg (!q) q)), [], [], []⟩ : Res)) = some r := hr
                rw [← eqLs_push, Option.bind_eq_some_iff] at hr'
                obtain ⟨q, h2, h3⟩ := hr'
                cases some_inl h3
                exact ok_aeq h ht hst hg hls ho hrx hry (Nat.eq_of_beq_eq_true h1.1) (Nat.eq_of_beq_eq_true h1.2) h2
              · cases hr
            simp only [Bool.or_self, cond_false] at hc
            split at hc
            · obtain ⟨x', y', hx, hy, rfl⟩ := ap2_some hc
              exact main false x' y' hx hy ho hr
            · obtain ⟨x', y', hx, hy, rfl⟩ := ap2_some hc
              exact main true x' y' hx hy ho hr
            · cases hc
      · cases hc
    · cases hc
  · rename_i t x ho
    obtain ⟨y, hy, rfl⟩ := map_some hc
    simp only [aopK] at hr
    obtain ⟨b, hb, hr⟩ := gBool_at h hy hr
    cases some_inl hr
    exact ok_not h ho hb
  · rename_i t x ho
    split at hc
    · rename_i k ht
      obtain ⟨y, hy, rfl⟩ := map_some hc
      simp only [aopK] at hr
      obtain ⟨b, hb, hr⟩ := gInt_at h hy hr
      cases some_inl hr
      exact ok_neg h ho hb
    · cases hc
  · rename_i s t x ho
    split at hc
    · rename_i k k' hs ht
      obtain ⟨y, hy, rfl⟩ := map_some hc
      simp only [aopK] at hr
      obtain ⟨b, hb, hr⟩ := gInt_at h hy hr
      cases some_inl hr
      exact ok_conv h hs ht ho hb
    · rename_i e hs ht
      split at hc
      · rename_i he
        obtain ⟨y, hy, rfl⟩ := map_some hc
        simp only [aopK] at hr
        obtain ⟨rows, hrows, hr⟩ := gList_at h hy hr
        have hr' : bytesOf rows (fun s => (some s).bind fun s => some (.inl ⟨dv (.str ⟨s.toArray⟩), [], [], []⟩ : Res)) = some r := hr
        rw [← bytesOf_push, Option.bind_eq_some_iff] at hr'
        obtain ⟨l, h2, h3⟩ := hr'
        cases some_inl h3
        exact ok_bstr h ho hs he ht hrows h2
      · cases hc
    · cases hc
  · rename_i t x ho
    obtain ⟨hcon, hc⟩ := cond_some hc
    obtain ⟨y, hy, rfl⟩ := map_some hc
    have hrep := arg_rep h hy
    simp only [aopK] at hr
    split at hr
    · rename_i cs he
      rw [he] at hrep
      have := gDs_some hr
      cases some_inl this
      exact ok_mkI h hcon ho hrep
    · cases hr
  · rename_i f first caps ho
    obtain ⟨h1, hc⟩ := cond_some hc
    obtain ⟨ys, hys, rfl⟩ := map_some hc
    have hf : first = #[] := Array.eq_empty_of_size_eq_zero (Nat.eq_of_beq_eq_true h1)
    subst hf
    simp only [aopK] at hr
    obtain ⟨cs, hcs, hr⟩ := capsK_at h hys hr
    cases some_inl hr
    exact ok_mkF h ho (by simpa using hcs)
  · rename_i x i ho
    obtain ⟨y, hy, rfl⟩ := map_some hc
    have hrep := arg_rep h hy
    simp only [aopK] at hr
    split at hr
    · rename_i vs he
      rw [he] at hrep
      obtain ⟨h1, hr⟩ := cond_some hr
      cases some_inl hr
      have := Nat.le_of_ble_eq_true h1
      exact ok_ext h ho hrep this
    · cases hr
  · rename_i x ho
    obtain ⟨y, hy, rfl⟩ := map_some hc
    have hrep := arg_rep h hy
    simp only [aopK] at hr
    split at hr
    · rename_i b off he
      rw [he] at hrep
      cases some_inl hr
      obtain ⟨B, _, hB⟩ := hrep.ptr_eq
      exact ok_nchk h ho hB hrep
    · rename_i sz row off he
      rw [he] at hrep
      cases some_inl hr
      obtain ⟨b, o', _, hB, _⟩ := hrep.rptr_eq
      exact ok_nchk h ho hB hrep
    · cases hr
  · rename_i f xs ts ho
    obtain ⟨ys, hys, rfl⟩ := map_some hc
    simp only [aopK] at hr
    exact ok_call hΓ hs h ho hys hnk hr
  · rename_i x xs ts _ ho
    obtain ⟨y, ys, hy, hys, rfl⟩ := ap2_some hc
    have hrep := arg_rep h hy
    simp only [aopK] at hr
    split at hr
    · rename_i f caps he
      rw [he] at hrep
      exact ok_callv hΓ hs h ho hys hrep hnk hr
    · cases hr
  · rename_i xs ts ho
    split at hc
    · rename_i x t hxs hts
      have e1 : xs = #[x] := by rw [← Array.toArray_toList (xs := xs), hxs]
      have e2 : ts = #[t] := by rw [← Array.toArray_toList (xs := ts), hts]
      subst e1
      subst e2
      split at hc
      · rename_i ht
        obtain ⟨y, hy, rfl⟩ := map_some hc
        simp only [aopK] at hr
        obtain ⟨s, hs, hr⟩ := gStr_at h hy hr
        cases some_inl hr
        exact ok_lenS h ht ho hs
      · rename_i e ht
        obtain ⟨y, hy, rfl⟩ := map_some hc
        have hrep := arg_rep h hy
        simp only [aopK] at hr
        split at hr
        · rename_i d he
          rw [he] at hrep
          obtain ⟨h1, hr⟩ := cond_some hr
          obtain ⟨sz, hd⟩ := D.isL_eq h1
          cases some_inl hr
          have hrd : RepD g.w g.φ d (a.eval x) := by cases hrep with | one _ _ hq => cases hq with | d _ _ hq => exact hq
          exact ok_lenL h ht ho (by rw [hd] at hrd; exact hrd)
        · rename_i κ e' sz rows he
          rw [he] at hrep
          cases some_inl hr
          exact ok_lenL h ht ho (RepV.list (.inr (.inl ⟨κ, e', rfl⟩)) hrep)
        · rename_i sz he
          rw [he] at hrep
          cases some_inl hr
          exact ok_lenL h ht ho (sz := sz) (rows := []) (RepV.list (.inr (.inr ⟨sz, rfl, rfl⟩)) hrep)
        · cases hr
      · cases hc
    · cases hc
  · rename_i xs ts ho
    split at hc
    · rename_i x y hxs
      have e1 : xs = #[x, y] := by rw [← Array.toArray_toList (xs := xs), hxs]
      subst e1
      obtain ⟨x', y', hx, hy, rfl⟩ := ap2_some hc
      simp only [aopK] at hr
      obtain ⟨m, hm, hr⟩ := gInt_at h hx hr
      obtain ⟨n, hn, hr⟩ := gInt_at h hy hr
      cases some_inl hr
      exact ok_mnmx (mx := false) h ho hm hn
    · cases hc
  · rename_i xs ts ho
    split at hc
    · rename_i x y hxs
      have e1 : xs = #[x, y] := by rw [← Array.toArray_toList (xs := xs), hxs]
      subst e1
      obtain ⟨x', y', hx, hy, rfl⟩ := ap2_some hc
      simp only [aopK] at hr
      obtain ⟨m, hm, hr⟩ := gInt_at h hx hr
      obtain ⟨n, hn, hr⟩ := gInt_at h hy hr
      cases some_inl hr
      exact ok_mnmx (mx := true) h ho hm hn
    · cases hc
  · rename_i xs ts ho
    split at hc
    · rename_i x y t t' hxs hts
      have e1 : xs = #[x, y] := by rw [← Array.toArray_toList (xs := xs), hxs]
      have e2 : ts = #[t, t'] := by rw [← Array.toArray_toList (xs := ts), hts]
      subst e1
      subst e2
      split at hc
      · rename_i e ht
        split at hc
        · rename_i ti hti
          split at hc
          · rename_i z hz
            obtain ⟨h1, hc2⟩ := cond_some hc
            clear hc
            simp only [Bool.and_eq_true] at h1
            obtain ⟨⟨h1, h2⟩, h3⟩ := h1
            have h1 := Nat.eq_of_beq_eq_true h1
            subst h1
            have h2 := Nat.eq_of_beq_eq_true h2
            have h3 : 0 < ti.size := Nat.le_of_ble_eq_true h3
            obtain ⟨x', y', hx, hy, rfl⟩ := ap2_some hc2
            have hrx := arg_rep h hx
            simp only [aopK] at hr
            obtain ⟨new, hnew, hr⟩ := gList_at h hy hr
            obtain ⟨h4, hr⟩ := cond_some hr
            have hne : new ≠ [] := fun e => by subst e; cases h4
            split at hr
            · rename_i κ e' s rows he
              rw [he] at hrx
              obtain ⟨h5, hr2⟩ := cond_some hr
              clear hr
              simp only [Bool.and_eq_true] at h5
              obtain ⟨⟨⟨h5, h6⟩, h7⟩, h8⟩ := h5
              have h6 := Nat.eq_of_beq_eq_true h6
              have h7 := Nat.eq_of_beq_eq_true h7
              subst h6
              subst h7
              cases some_inl hr2
              obtain ⟨e1, s1, u1, hgk⟩ := h.live κ h5
              generalize hv : a.eval x = v at hrx
              cases hrx with
              | one _ _ hq =>
                cases hq with
                | own _ _ _ _ _ hd hk hu =>
                  obtain ⟨rfl, rfl, rfl⟩ := hk _ _ _ hgk
                  exact ok_app h ho ht hti hz h2 h3 hnk0 [κ] hv hd (.inr ⟨κ, rfl, hgk⟩) hnew hne (Nat.le_of_ble_eq_true h8)
            · rename_i s he
              rw [he] at hrx
              obtain ⟨h8, hr⟩ := cond_some hr
              cases some_inl hr
              generalize hv : a.eval x = v at hrx
              cases hrx with
              | one _ _ hq =>
                cases hq with
                | nilL =>
                  have := ok_app h ho ht hti hz h2 h3 hnk0 (rows := []) [] hv (.nil _ _ _) (.inl ⟨rfl, rfl, rfl⟩) hnew hne (by simpa using Nat.le_of_ble_eq_true h8)
                  simpa using this
            · cases hr
          · cases hc
        · cases hc
      · cases hc
    · cases hc
  · rename_i x ho
    obtain ⟨y, hy, rfl⟩ := map_some hc
    have hrep := arg_rep h hy
    simp only [aopK] at hr
    split at hr
    · rename_i d he
      rw [he] at hrep
      obtain ⟨h1, hr⟩ := cond_some hr
      have hrd : RepD g.w g.φ d (a.eval x) := by cases hrep with | one _ _ hq => cases hq with | d _ _ hq => exact hq
      cases hr
      intro K Q hK
      obtain ⟨t', u, hu⟩ : ∃ t' u, a.eval x = .iface t' u := by
        generalize a.eval x = v at hrd
        rcases D.isI_eq h1 with rfl | ⟨t', row, rfl⟩
        · cases hrd; exact ⟨_, _, rfl⟩
        · cases hrd; exact ⟨_, _, rfl⟩
      have hrun : (execOp a.eval o).run P g.w = .halt (.panic (a.eval x)) g.w := by
        simp only [execOp, ho, hu, Instr.panic, goPanic]
        rfl
      unfold Oper.wp
      rw [hrun]
      exact hK g (a.eval x) (RepP.pure h (.junk _)) hrd
    · cases hr
  · cases hc
end
end Go.Proofs.YtaphnbaiamnfpaaGreatDoor.Ps
