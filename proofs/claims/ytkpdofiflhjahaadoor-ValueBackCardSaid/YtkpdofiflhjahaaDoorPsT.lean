/- Functions: what the small language says of a function, the machine does. -/
import Derived.Test.YtkpdofiflhjahaaDoorPsS
namespace Go.Proofs.YtkpdofiflhjahaaDoor.Ps
set_option linter.unusedVariables false
set_option linter.unusedSimpArgs false
open Go Go.RowKit

section
variable (P : Program)
def compRes : List ResultVar → Option (List SRes)
  | [] => some []
  | .tmp t :: r => match compRes r with | some l => some (.tmp t :: l) | none => none
  | .cell p ty :: r => match P.underlying ty, P.info? ty, compRes r with
    | some d, some i, some l => some (.cell (isAg d) i.size p :: l)
    | _, _, _ => none
/-- A function of the program, put into the small language. -/
def compFunc (lv : List (Option (List Nat))) (F : Func) : Option SFunc :=
  match F.body with
  | some c => match compCode P F.ntmps lv c, compRes P F.results.toList with
    | some (sc, _), some rs => cond (Nat.ble (F.params.size + F.nfree) F.ntmps && !(F.name == "runtime.NumGoroutine")) (some ⟨F.params.size + F.nfree, rs, sc⟩) none
    | _, _ => none
  | none => none
end
def resOf (tmps : Array Value) : ResultVar → Go.Sem Value
  | .tmp t => pure (tmps.getD t undef)
  | .cell a t => do loadVar t (← asAddr (tmps.getD a undef))
def oneV : List Value → Value
  | [v] => v
  | us => .tuple us.toArray
theorem results_eq (F : Func) (tmps : Array Value) (P : Program) (w : World) (us : List Value) (h : (F.results.toList.mapM (resOf tmps)).run P w = .ok us w) : (results F tmps).run P w = .ok (oneV us) w := by
  have e : (F.results.mapM (resOf tmps)).run P w = .ok us.toArray w := by
    rw [Array.mapM_eq_mapM_toList]
    simp [h]
  unfold results
  rw [Sem.run_bind]
  show ((F.results.mapM (resOf tmps)).run P w).andThen _ = _
  rw [e, Result.andThen_ok]
  rcases us with _ | ⟨v, _ | ⟨v2, us⟩⟩
  · rfl
  · rfl
  · have hne : ¬ ((v :: v2 :: us).toArray.size = 1) := by simp
    rw [dif_neg hne]
    rfl
section
variable {P : Program} {N : Nat}
theorem run_loadVarA {w : World} {t : TypeId} {i : TypeInfo} {d : TypeDesc} {b : Nat} {vs : List Value} (hi : P.info? t = some i) (hd : P.underlying t = some d) (hl : vs.length = i.size)
    (hc : ∀ j v, vs[j]? = some v → w.cell? ⟨b, 0 + j, none⟩ = some v) (hag : isAg d = true) : (loadVar t ⟨b, 0, none⟩).run P w = .ok (.agg vs.toArray) w := by
  have := run_loadAt (o' := 0) hi hd hl hc hag
  simpa [Instr.loadAt, Instr.sureAddr] using this
theorem run_loadVar1 {w : World} {t : TypeId} {d : TypeDesc} {b o' : Nat} {v : Value} (hd : P.underlying t = some d) (hc : w.cell? ⟨b, o', none⟩ = some v) (hag : isAg d = false) : (loadVar t ⟨b, o', none⟩).run P w = .ok v w := by
  have := run_loadAt1 hd hc hag
  simpa [Instr.loadAt, Instr.sureAddr] using this
theorem res_ok {g : G} {s : St} {a : Act} (h : Rep N g s.view a) {α : Type} {r : α} : ∀ (rvs : List ResultVar) (rs : List SRes), compRes P rvs = some rs → ∀ (K : List V → Option α), resK s rs K = some r →
    ∃ vs us, K vs = some r ∧ RepVs g vs us ∧ (rvs.mapM (resOf a.tmps)).run P g.w = .ok us g.w
  | [], rs, hc, K, hk => by
    cases hc
    exact ⟨[], [], hk, .nil g, rfl⟩
  | .tmp t :: rvs, rs, hc, K, hk => by
    unfold compRes at hc
    split at hc
    · rename_i l hl
      cases hc
      unfold resK at hk
      obtain ⟨vs, us, h1, h2, h3⟩ := res_ok h rvs l hl _ hk
      refine ⟨_, _, h1, .cons (h.env t) h2, ?_⟩
      simp [List.mapM_cons, resOf, h3]
    · cases hc
  | .cell p ty :: rvs, rs, hc, K, hk => by
    unfold compRes at hc
    split at hc
    · rename_i d i l hd hi hl
      cases hc
      have hp := h.env p
      cases hag : isAg d with
      | true =>
        rw [hag] at hk
        unfold resK at hk
        rcases gPtr_some hk with ⟨b, off, e, hk⟩ | ⟨sz, row, off, e, hk⟩
        · obtain ⟨x, hx, hk⟩ := gBlk_some hk
          obtain ⟨hc, hk2⟩ := cond_some hk
          clear hk
          simp only [Bool.and_eq_true] at hc
          have h0 := Nat.eq_of_beq_eq_true hc.1
          have hn := Nat.eq_of_beq_eq_true hc.2
          subst h0
          obtain ⟨vs, us, h1, h2, h3⟩ := res_ok h rvs l hl _ hk2
          have e' : s.view.env p = .one (.ptr b 0) := e
          rw [e'] at hp
          obtain ⟨B, hB, hpv⟩ := hp.ptr_eq
          obtain ⟨B', hr⟩ := h.heap b x hx
          have : B' = B := by have := hr.at_; rw [hB] at this; cases this; rfl
          subst this
          obtain ⟨cs, T, hc, hxr⟩ := hr.cells
          have hlen : cs.toList.length = i.size := by rw [hxr.1, hn]
          have hload := run_loadVarA (P := P) (w := g.w) (b := B') hi hd hlen (fun j v hv => by
            have hlt : j < cs.size := by have := (List.getElem?_eq_some_iff.1 hv).1; simpa using this
            rw [Nat.zero_add, cell_row hc hlt, List.getD_eq_getElem?_getD, hv]
            rfl) hag
          refine ⟨_, .agg cs.toList.toArray :: us, h1, .cons (.agg _ _ hxr.1 hxr.2) h2, ?_⟩
          have hp2 : (resOf a.tmps (.cell p ty)).run P g.w = .ok (.agg cs.toList.toArray) g.w := by
            have e3 : resOf a.tmps (.cell p ty) = (do loadVar ty (← asAddr (a.tmps.getD p undef))) := rfl
            rw [e3, hpv]
            simp only [asAddr, Sem.run_bind, Sem.run_pure, Result.andThen_ok, hload]
          rw [List.mapM_cons, Sem.run_bind, hp2, Result.andThen_ok, Sem.run_bind, h3]
          rfl
        · cases hk
      | false =>
        rw [hag] at hk
        unfold resK at hk
        rcases gPtr_some hk with ⟨b, off, e, hk⟩ | ⟨sz, row, off, e, hk⟩
        · obtain ⟨x, hx, hk⟩ := gBlk_some hk
          obtain ⟨hc, hk⟩ := cond_some hk
          have hlt : off < x.row.length := Nat.le_of_ble_eq_true hc
          obtain ⟨vs, us, h1, h2, h3⟩ := res_ok h rvs l hl _ hk
          have e' : s.view.env p = .one (.ptr b off) := e
          rw [e'] at hp
          obtain ⟨B, hB, hpv⟩ := hp.ptr_eq
          obtain ⟨B', hr⟩ := h.heap b x hx
          have : B' = B := by have := hr.at_; rw [hB] at this; cases this; rfl
          subst this
          obtain ⟨cs, T, hc, hxr⟩ := hr.cells
          have hsz : cs.size = x.row.length := by simpa using hxr.1
          have hload := run_loadVar1 (P := P) (w := g.w) hd (cell_row hc (j := off) (by omega)) hag
          refine ⟨_, cs.toList.getD off undef :: us, h1, .cons (.one _ _ (hxr.2 off hlt)) h2, ?_⟩
          have hp2 : (resOf a.tmps (.cell p ty)).run P g.w = .ok (cs.toList.getD off undef) g.w := by
            have e3 : resOf a.tmps (.cell p ty) = (do loadVar ty (← asAddr (a.tmps.getD p undef))) := rfl
            rw [e3, hpv]
            simp only [asAddr, Sem.run_bind, Sem.run_pure, Result.andThen_ok, hload]
          rw [List.mapM_cons, Sem.run_bind, hp2, Result.andThen_ok, Sem.run_bind, h3]
          rfl
        · cases hk
    · cases hc
theorem outRows_some {α : Type} {s : St} : ∀ (n i : Nat) {K : List (List D) → Option α} {r : α}, outRows s i n K = some r → ∃ rs, K rs = some r ∧ rs.length = n ∧ ∀ j, j < n → ∃ x, lookB (i + j) s.heap = some x ∧ rs[j]? = some (x.row.map X.toD)
  | 0, i, K, r, h => ⟨[], h, rfl, fun j hj => absurd hj (by omega)⟩
  | n + 1, i, K, r, h => by
    unfold outRows at h
    obtain ⟨x, hx, h⟩ := gBlk_some h
    have h := gDs_some h
    obtain ⟨rs, h1, h2, h3⟩ := outRows_some n (i + 1) h
    refine ⟨_ :: rs, h1, by simp [h2], fun j hj => ?_⟩
    cases j with
    | zero => exact ⟨x, hx, rfl⟩
    | succ j =>
      obtain ⟨y, hy, hy2⟩ := h3 j (by omega)
      refine ⟨y, ?_, by simpa using hy2⟩
      rw [← hy]
      congr 1
      omega
theorem look_beg : ∀ (args : List V) (k t : Nat), look t (begE k args) = if k ≤ t then args.getD (t - k) .junk else .junk
  | [], k, t => by simp [begE, look]
  | v :: args, k, t => by
    simp only [begE, look]
    cases hq : Nat.beq k t
    · have hne : k ≠ t := fun e => by subst e; simp at hq
      have := look_beg args (k + 1) t
      simp only [cond_false]
      rw [this]
      by_cases h : k ≤ t
      · rw [if_pos (show k + 1 ≤ t by omega), if_pos h]
        have : t - k = (t - (k + 1)) + 1 := by omega
        rw [this]
        rfl
      · rw [if_neg h, if_neg (by omega)]
    · have e := Nat.eq_of_beq_eq_true hq
      subst e
      simp
theorem begin_rep {g : G} {rows : List (List Lf × List D)} (he : Entry g rows) {args : List V} {vs : List Value} (hv : RepVs g args vs) (hN : args.length ≤ N) (np : Nat) :
    Rep N g ({ env := begE 0 args, heap := begB 0 rows, live := [], nb := rows.length, nk := 0, np := np } : St).view { tmps := vs.toArray ++ Array.replicate (N - vs.toArray.size) undef, defers := [] } where
  size := by have := hv.1; simp; omega
  env := fun t => by
    show RepV g (look t (begE 0 args)) _
    rw [look_beg, if_pos (Nat.zero_le t), Nat.sub_zero]
    have hlen := hv.1
    by_cases hlt : t < args.length
    · have := hv.2 t hlt
      have e : (vs.toArray ++ Array.replicate (N - vs.toArray.size) undef).getD t undef = vs.getD t undef := by
        rw [Array.getD_eq_getD_getElem?, Array.getElem?_append_left (by simp; omega), List.getD_eq_getElem?_getD]
        simp
      rw [e]
      exact this
    · have e : args.getD t .junk = .junk := by rw [List.getD_eq_getElem?_getD, List.getElem?_eq_none (by omega)]; rfl
      rw [e]
      exact .junk _
  heap := he.blk
  inj := he.inj
  lt := he.lt
  live := fun κ hκ => by cases hκ
  own := fun κ e s u hu => by rw [he.gk κ] at hu; cases hu
  dist := fun κ κ' e s u e' s' u' b hu => by rw [he.gk κ] at hu; cases hu
  used := fun κ e s u hu => by rw [he.gk κ] at hu; cases hu
  fresh := he.fresh
theorem out_ok {g0 g : G} {rows : List (List Lf × List D)} (he : Entry g0 rows) {s : St} {a : Act} (ht : Tr rows.length g0 g) (hr : Rep N g s.view a) {ks : List Nat} (hks : KeysOk s.live ks) {o : Out} (hm : o.m = ks.length)
    {e : Ending} (hlen : o.rows.length = rows.length) (hrows : ∀ j, j < rows.length → ∃ x, lookB j s.heap = some x ∧ o.rows[j]? = some (x.row.map X.toD))
    (hok : o.ok = true → ∃ v, e = .returned v ∧ RepV (g.by (rangeN 0 rows.length) ks) o.val v) (hpan : o.ok = false → ∃ u, e = .panicked [{ v := u, recovered := false }] ∧ RepD g.w g.φ o.pv u) :
    OutOk g0 (g.by (rangeN 0 rows.length) ks) rows.length o e where
  step := ht.step.trans (by_step g _ _)
  lens := hlen
  rows := fun i hi => by
    obtain ⟨x, hx, hrx⟩ := hrows i hi
    obtain ⟨B, hB⟩ := hr.heap i x hx
    obtain ⟨cs, T, hc, hxr⟩ := hB.cells
    obtain ⟨y, hy⟩ : ∃ y, lookB i (begB 0 rows) = some y := by
      have hb : ∀ (rows : List (List Lf × List D)) (k i : Nat), k ≤ i → i - k < rows.length → ∃ y, lookB i (begB k rows) = some y := by
        intro rows
        induction rows with
        | nil => intro k i _ h; exact absurd h (by simp)
        | cons r rows ih =>
          intro k i hk h
          obtain ⟨sh, row⟩ := r
          simp only [begB, lookB]
          cases hq : Nat.beq k i
          · have hne : k ≠ i := fun e => by subst e; simp at hq
            exact ih (k + 1) i (by omega) (by simp at h; omega)
          · exact ⟨_, rfl⟩
      exact hb rows 0 i (Nat.zero_le _) (by omega)
    obtain ⟨B0, hB0⟩ := he.blk i y hy
    have := ht.β i B0 hi hB0.at_
    rw [hB.at_] at this
    cases this
    refine ⟨B, cs, T, hB0.at_, hc, ?_, hB.low⟩
    have e1 : o.rows.getD i [] = x.row.map X.toD := by rw [List.getD_eq_getElem?_getD, hrx]; rfl
    rw [e1]
    exact begX_rep (g := g) (g' := g.by _ ks) rfl rfl hxr
  fresh := hr.fresh
  ok := hok
  pan := hpan
  alive := fun κ hκ => by
    rw [hm] at hκ
    obtain ⟨e1, s1, u1, hu⟩ := hr.live ks[κ] (hks.live _ (List.getElem_mem hκ))
    refine ⟨(e1, s1, u1), ?_⟩
    show (ks[κ]?).bind g.gk = _
    rw [List.getElem?_eq_getElem hκ]
    exact hu
  own := fun κ e s' u hu => by
    have hu' : (ks[κ]?).bind g.gk = some (e, s', u) := hu
    rw [Option.bind_eq_some_iff] at hu'
    obtain ⟨q, _, h2⟩ := hu'
    have ho := hr.own q e s' u h2
    refine ⟨ho.row, fun b hb i hi => ?_⟩
    have hi' : ((rangeN 0 rows.length)[i]?).bind g.β = some b := hi
    rw [Option.bind_eq_some_iff] at hi'
    obtain ⟨q', _, h3⟩ := hi'
    exact ho.no b hb q' h3
  new := fun κ e s' u b hu hb => by
    have hu' : (ks[κ]?).bind g.gk = some (e, s', u) := hu
    rw [Option.bind_eq_some_iff] at hu'
    obtain ⟨q, _, h2⟩ := hu'
    rcases ht.step.wri b (.inr ⟨q, e, s', u, h2, hb⟩) with hm0 | hm0
    · exfalso
      rcases hm0 with ⟨i, hi⟩ | ⟨κ', e', s'', u', hu', _⟩
      · have hin : i < rows.length := by
          rcases Nat.lt_or_ge i rows.length with h | h
          · exact h
          · rw [he.out i h] at hi; cases hi
        exact (hr.own q e s' u h2).no b hb i (ht.β i b hin hi)
      · rw [he.gk κ'] at hu'; cases hu'
    · exact hm0
  dist := fun κ κ' e s' u e' s'' u' b hu hu' hb hb' => by
    have h1 : (ks[κ]?).bind g.gk = some (e, s', u) := hu
    have h2 : (ks[κ']?).bind g.gk = some (e', s'', u') := hu'
    rw [Option.bind_eq_some_iff] at h1 h2
    obtain ⟨q, h1, h3⟩ := h1
    obtain ⟨q', h2, h4⟩ := h2
    have := hr.dist q q' _ _ _ _ _ _ b h3 h4 hb hb'
    subst this
    exact nodup_inj hks.nodup h1 h2
theorem X.plain_rep {g : G} {x : X} {v : Value} (h : RepX g x v) : RepX g x.plain v := by
  cases h with
  | own κ e sz rows v h hk hu => exact .d _ _ h
  | nilL sz => exact .d _ _ (.nil sz none 0)
  | d x v h => exact .d _ _ h
  | ptr b B off h => exact .ptr b B off h
  | rptr sz row b o off vs hb hc h1 h2 => exact .rptr sz row b o off vs hb hc h1 h2
  | fn f caps vs hl h => exact .fn f caps vs hl h
theorem X.plainL_at : ∀ (cs : List X), (X.plainL cs).length = cs.length ∧ ∀ j, j < cs.length → (X.plainL cs).getD j (.d .junk) = (cs.getD j (.d .junk)).plain
  | [] => ⟨rfl, fun j hj => absurd hj (by simp)⟩
  | x :: cs => by
    obtain ⟨h1, h2⟩ := X.plainL_at cs
    refine ⟨by simp [X.plainL, h1], fun j hj => ?_⟩
    cases j with
    | zero => rfl
    | succ j => exact h2 j (by simpa using hj)
mutual
theorem V.plain_rep {g : G} : ∀ (x : V) {v : Value}, RepV g x v → RepV g x.plain v
  | .one x, v, h => by
    cases h with
    | one _ _ h => rw [V.plain]; exact .one _ _ (X.plain_rep h)
  | .agg cs, v, h => by
    cases h with
    | agg _ vs hl h =>
      rw [V.plain]
      obtain ⟨h1, h2⟩ := X.plainL_at cs
      exact .agg _ vs (by omega) (fun j hj => by rw [h2 j (by omega)]; exact X.plain_rep (h j (by omega)))
  | .tup xs, v, h => by
    cases h with
    | tup _ vs hl h =>
      rw [V.plain]
      obtain ⟨h1, h2⟩ := V.plainL_rep (g := g) xs vs hl h
      exact .tup _ vs (by omega) h2
  | .junk, v, h => by rw [V.plain]; exact .junk _
theorem V.plainL_rep {g : G} : ∀ (xs : List V) (vs : List Value), vs.length = xs.length → (∀ j, j < xs.length → RepV g (xs.getD j .junk) (vs.getD j undef)) →
    (V.plainL xs).length = xs.length ∧ ∀ j, j < (V.plainL xs).length → RepV g ((V.plainL xs).getD j .junk) (vs.getD j undef)
  | [], vs, hl, h => by rw [V.plainL]; exact ⟨rfl, fun j hj => absurd hj (by simp)⟩
  | x :: xs, [], hl, h => by simp at hl
  | x :: xs, v :: vs, hl, h => by
    rw [V.plainL]
    obtain ⟨h1, h2⟩ := V.plainL_rep (g := g) xs vs (by simpa using hl) (fun j hj => h (j + 1) (by simpa using hj))
    refine ⟨by simp [h1], fun j hj => ?_⟩
    cases j with
    | zero => exact V.plain_rep x (h 0 (by simp))
    | succ j => exact h2 j (by simpa using hj)
end
theorem settle_ok {g g' : G} {n : Nat} {o : Out} {e : Ending} (ow : Bool) (h : OutOk g g' n o e) : OutOk g g' n (settle ow o) e := by
  cases ow
  · exact { h with
      ok := fun ho => by
        obtain ⟨v, h1, h2⟩ := h.ok ho
        exact ⟨v, h1, V.plain_rep _ h2⟩
      alive := fun κ hκ => absurd hκ (Nat.not_lt_zero κ) }
  · exact h
theorem func_ok {Γ : SemL} {shp : FuncId → Sh} {w0 : World} (hΓ : SemOk P w0 Γ) (hm : P.follows .mixedOrders = true) {f : FuncId} {F : Func} (hF : P.funcs[f]? = some F) {lv : List (Option (List Nat))} {fn : SFunc} (hc : compFunc P lv F = some fn) {n : Nat} {args : List V}
    {rows : List (List Lf × List D)} {o : Out} {ow : Bool} (hargs : args.length = fn.nparams) (h : runF Γ shp ow fn n args rows = some o) : CallOk P w0 f args rows o := by
  intro g vs hs he hv
  unfold compFunc at hc
  split at hc
  · rename_i c hb
    split at hc
    · rename_i sc lv' rs h1 h2
      obtain ⟨h3, hc⟩ := cond_some hc
      simp only [Bool.and_eq_true] at h3
      cases hc
      have hN : args.length ≤ F.ntmps := by rw [hargs]; exact Nat.le_of_ble_eq_true h3.1
      refine ⟨fun w => ?_, ?_⟩
      · have hname : F.name ≠ "runtime.NumGoroutine" := by simpa using h3.2
        simp [callFunc, Sem.run_bind, run_program, hF, hname, hb]
      · refine calls_of_wp hF hb ?_
        unfold runF at h
        have hrep := begin_rep (N := F.ntmps) he hv hN rows.length
        have hw := code_ok (N := F.ntmps) (np := rows.length) (df := []) hΓ hm c lv sc lv' h1 n _ _ g g _ h hs (Tr.refl _ g) hrep ⟨he.out, fun κ _ => he.us κ⟩ rfl rfl
        refine wp_mono hw ?_
        rintro e a' w' ⟨se, s', g', rfl, hk, ht, hr, hn, hd, hends⟩
        have hret : (∃ vs, resK s' rs (fun vs => outRows s' 0 rows.length fun rs => some (settle ow ⟨true, (oneOr vs).ren (fun _ => none) (fun κ => idx κ (V.keysL s'.live vs []) 0), .junk, rs, (V.keysL s'.live vs []).length⟩)) = some o ∧ vs = ([] : List V)) →
            a'.defers = [] ∧ ∃ v, (results F a'.tmps).run P g'.w = .ok v g'.w ∧ ∃ g'', g''.w = g'.w ∧ OutOk g g'' rows.length o (.returned v) := by
          rintro ⟨_, hk, _⟩
          obtain ⟨vs', us, hk, hvs, hrun⟩ := res_ok hr F.results.toList rs h2 _ hk
          obtain ⟨rws, hk, hl, hrows⟩ := outRows_some rows.length 0 hk
          cases hk
          refine ⟨hd, _, results_eq F a'.tmps P g'.w us hrun, g'.by (rangeN 0 rows.length) (V.keysL s'.live vs' []), rfl, ?_⟩
          refine settle_ok ow (out_ok he ht hr (V.keysL_ok vs' [] ⟨List.nodup_nil, fun κ hκ => by cases hκ⟩) rfl hl (fun j hj => by have := hrows j hj; rwa [Nat.zero_add] at this) (fun _ => ⟨_, rfl, ?_⟩) (fun hq => by cases hq))
          refine RepV.ren (g := g') (g' := g'.by _ _) _ _ (Ext.refl _ _) (fun b i hi => by cases hi) (fun κ i hi hu => ?_) _ _ ?_
          · have e := idx_ids hi
            refine ⟨(List.getElem?_eq_some_iff.1 e).1, fun t ht => ?_⟩
            have ht' : ((V.keysL s'.live vs' [])[i]?).bind g'.gk = some t := ht
            rw [e] at ht'
            exact ht'
          · rcases vs' with _ | ⟨v, _ | ⟨v2, vs'⟩⟩
            · have : us = [] := List.eq_nil_of_length_eq_zero hvs.1
              subst this
              exact .tup [] [] rfl (fun j hj => absurd hj (by simp))
            · rcases us with _ | ⟨u, _ | ⟨u2, us⟩⟩
              · exact absurd hvs.1 (by simp)
              · exact hvs.head.1
              · exact absurd hvs.1 (by simp)
            · rcases us with _ | ⟨u, _ | ⟨u2, us⟩⟩
              · exact absurd hvs.1 (by simp)
              · exact absurd hvs.1 (by simp)
              · exact .tup _ _ hvs.1 hvs.2
        cases se with
        | norm =>
          obtain ⟨rfl, _⟩ := hends
          exact hret ⟨[], hk, rfl⟩
        | exit id =>
          have hk : none = some o := hk
          cases hk
        | ret =>
          obtain ⟨rfl, _⟩ := hends
          exact hret ⟨[], hk, rfl⟩
        | pan d =>
          obtain ⟨u, rfl, hu⟩ := hends
          have hk : outRows s' 0 rows.length (fun rs => some ⟨false, .junk, d, rs, 0⟩) = some o := hk
          obtain ⟨rws, hk, hl, hrows⟩ := outRows_some rows.length 0 hk
          cases hk
          refine ⟨hd, g'.by (rangeN 0 rows.length) [], rfl, ?_⟩
          exact out_ok he ht hr (ks := []) ⟨List.nodup_nil, fun κ hκ => by cases hκ⟩ rfl hl (fun j hj => by have := hrows j hj; rwa [Nat.zero_add] at this) (fun hq => by cases hq) (fun _ => ⟨u, rfl, hu⟩)
    · cases hc
  · cases hc
/-- What the small language says of a program, the machine does. -/
theorem A_ok {w0 : World} {prog : FuncId → Option SFunc} {lib : SemL → SemL} {shp : FuncId → Sh} (hm : P.follows .mixedOrders = true) (hprog : ∀ f fn, prog f = some fn → ∃ F lv, P.funcs[f]? = some F ∧ compFunc P lv F = some fn)
    (hlib : ∀ Γ, SemOk P w0 Γ → SemOk P w0 (lib Γ)) : ∀ k, SemOk P w0 (A prog lib shp k)
  | 0 => fun f args rows o h => by cases h
  | k + 1 => fun f args rows o h => by
    unfold A at h
    have ih := A_ok (shp := shp) hm hprog hlib k
    cases hp : prog f with
    | none => rw [hp] at h; exact hlib _ ih f args rows o h
    | some fn =>
      rw [hp] at h
      obtain ⟨h1, h⟩ := cond_some h
      obtain ⟨F, lv, hF, hc⟩ := hprog f fn hp
      exact func_ok ih hm hF hc (Nat.eq_of_beq_eq_true h1) h
end
end Go.Proofs.YtkpdofiflhjahaaDoor.Ps
