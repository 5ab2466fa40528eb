/- From what the rows' condition gives to the evaluator: the library's variables, the arguments as trees; and back: a law that is true runs so. -/
import Derived.Test.YtkpdofiflhjahaaDoorVb
import Derived.Lib.LaidTab
import Derived.ProofKit
import Derived.OpenShut
import Derived.LaidMore
namespace Go.Proofs.YtkpdofiflhjahaaDoor.Ps
set_option linter.unusedVariables false
set_option maxRecDepth 100000
open Go Go.RowKit Go.Proofs.YtkpdofiflhjahaaDoor

/-! ### the listed variables -/
theorem iface_cell {P : Program} {w : World} {t : TypeId} {ms : Array (String × TypeId)} {cs : List Value} {fuel : Nat} {name : String} {x : DataW Unit} {ps : List MemPlace} (ht : P.underlying t = some (.interface ms))
    (h : DataW.trod (fun _ => ()) P w 0 (fun _ => true) false fuel t cs = some (.iface name x, ps)) : ∃ u v, cs = [.iface u v] := by
  cases fuel with
  | zero => cases h
  | succ n =>
    unfold DataW.trod at h
    rw [ht] at h
    split at h <;> simp_all

/-! ### the arguments -/
/-- How many cells a block has. -/
def cellsIn (w : World) (b : Nat) : Nat := match w.heap[b]? with | some (.cells cs _ _) => cs.size | _ => 0
def g0 (w : World) : G := ⟨w, cellsIn w, fun _ => none, fun _ => none, fun _ => False⟩
theorem cell_lt {w : World} {b o : Nat} {v : Value} (h : w.cell? ⟨b, o, none⟩ = some v) : o < cellsIn w b := by
  unfold World.cell? at h
  unfold cellsIn
  split at h
  · rename_i cs _ _ hq
    rw [hq]
    have := (Array.getElem?_eq_some_iff.1 (show cs[o]? = some v from h)).1
    exact this
  · cases h
theorem entry0 (w : World) : Entry (g0 w) [] where
  blk := fun i x h => by cases h
  out := fun i _ => rfl
  inj := fun i j B h => by cases h
  lt := fun i B h => by cases h
  fresh := fun b h => by
    show cellsIn w b = 0
    have h' : w.heap.size ≤ b := h
    unfold cellsIn
    rw [Array.getElem?_eq_none h']
  gk := fun _ => rfl
  us := fun _ h => h
theorem since0 (w : World) : Since w (g0 w) := ⟨Below.refl _ _, fun b h => by
  rcases h with ⟨i, h⟩ | ⟨κ, e, s, u, h, _⟩ <;> cases h⟩
theorem choose_list' {α : Type} (Q : Nat → α → Prop) : ∀ n, (∀ i, i < n → ∃ a, Q i a) → ∃ xs : List α, xs.length = n ∧ ∀ i a, xs[i]? = some a → Q i a
  | 0, _ => ⟨[], rfl, fun i a h => by simp at h⟩
  | n + 1, h => by
    obtain ⟨xs, hl, hx⟩ := choose_list' Q n (fun i hi => h i (by omega))
    obtain ⟨a, ha⟩ := h n (by omega)
    refine ⟨xs ++ [a], by simp [hl], fun i b hb => ?_⟩
    by_cases hi : i < xs.length
    · rw [List.getElem?_append_left hi] at hb
      exact hx i b hb
    · rw [List.getElem?_append_right (by omega)] at hb
      obtain ⟨hlt, e⟩ := List.getElem?_eq_some_iff.1 hb
      have : i = n := by simp at hlt; omega
      subst this
      have : b = a := by simpa [hl] using e.symm
      rw [this]; exact ha
theorem two_of {α : Type} : ∀ {l : List α}, l.length = 2 → ∃ a b, l = [a, b]
  | [a, b], _ => ⟨a, b, rfl⟩
  | [], h => by simp at h
  | [_], h => by simp at h
  | _ :: _ :: _ :: _, h => by simp at h
theorem three_of {α : Type} : ∀ {l : List α}, l.length = 3 → ∃ a b c, l = [a, b, c]
  | [a, b, c], _ => ⟨a, b, c, rfl⟩
  | [], h => by simp at h
  | [_], h => by simp at h
  | [_, _], h => by simp at h
  | _ :: _ :: _ :: _ :: _, h => by simp at h
/-- A row of cells reads as a's row. -/
def RowRep {α : Type} (w : World) (sz : Nat) (row : α → List D) (a : α) (cs : List Value) : Prop :=
  cs.length = sz ∧ ∀ j, j < sz → RepD w (cellsIn w) (dat (row a) j) (cs.getD j undef)
section
variable {H : Type} {enc : TypeId × Value → H} {P : Program} {w : World} {base : Nat} {spare : Nat → Bool} {held : Bool}
theorem at_spot' {w : World} {a : Addr} {v : Value} (h : w.cell? a = some v) : a.spot = none := by
  unfold World.cell? at h
  split at h
  · cases hs : a.spot with
    | none => rfl
    | some k => rw [hs] at h; simp at h
  · cases h
theorem addr_at {a : Addr} (h : a.spot = none) (n : Nat) : a.add n = ⟨a.block, a.off + n, none⟩ := by
  obtain ⟨b, o, s⟩ := a
  cases h
  unfold Addr.add
  by_cases hz : n = 0
  · rw [if_pos hz, hz]; rfl
  · rw [if_neg hz]
/-- A slice whose elements read as rows. -/
theorem rep_slice {α : Type} {row : α → List D} {t e : TypeId} {sz fuel : Nat} {cs : List Value} {x : DataW H × List MemPlace} (hu : P.underlying t = some (.slice e)) (hc : P.cellsOf e = sz) (hsz : 0 < sz)
    (he : ∀ m, m < fuel → ∀ cs y, DataW.trod enc P w base spare held m e cs = some y → ∃ a : α, RowRep w sz row a cs) (h : DataW.trod enc P w base spare held fuel t cs = some x) :
    ∃ (l : List α) (v : Value), cs = [v] ∧ RepD w (cellsIn w) (.list sz (l.map row)) v ∧ l.length ≤ maxLen := by
  rcases DataW.trod_slice hu h with ⟨rfl, _⟩ | ⟨a, len, cap, elems, rest, m, hm, rfl, hx, hb, hl, hmx, hlen, hel, _, _⟩
  · exact ⟨[], _, rfl, .nil sz none 0, by simp⟩
  · rw [hc] at hel
    have hq : ∀ i, i < len → ∃ p : α, ∃ c : List Value, RowRep w sz row p c ∧ ∀ j, j < sz → w.cell? ((a.add (i * sz)).add j) = c[j]? := by
      intro i hi
      have h1 := hel i hi
      have h2 : elems[i]? = some (elems[i]'(by omega)) := List.getElem?_eq_getElem (by omega)
      rw [h2] at h1
      obtain ⟨cs', hcs, ht⟩ := Option.bind_eq_some_iff.1 h1
      obtain ⟨p, hp⟩ := he m (by omega) cs' _ ht
      obtain ⟨_, hcl, hat⟩ := World.cells?_some hcs
      exact ⟨p, cs', hp, hat⟩
    obtain ⟨xs, hxl, hxs⟩ := choose_list' _ len hq
    rcases Nat.eq_zero_or_pos len with h0 | h0
    · subst h0
      have : xs = [] := List.eq_nil_of_length_eq_zero hxl
      exact ⟨[], _, rfl, .nil sz (some a) cap, by simp⟩
    · have hval : ∀ i, i < len → ∃ c : List Value, RowRep w sz row (xs.getD i (xs[0]'(by omega))) c ∧ ∀ j, j < sz → w.cell? ((a.add (i * sz)).add j) = c[j]? := by
        intro i hi
        have := hxs i (xs[i]'(by omega)) (List.getElem?_eq_getElem (by omega))
        rw [List.getD_eq_getElem?_getD, List.getElem?_eq_getElem (by omega)]
        exact this
      have hsp : a.spot = none := by
        obtain ⟨c, hr, hat⟩ := hval 0 h0
        have h1 := hat 0 hsz
        rw [List.getElem?_eq_getElem (by rw [hr.1]; exact hsz)] at h1
        have := at_spot' h1
        unfold Addr.add at this
        simp at this
        exact this
      have cell : ∀ i j, i < len → j < sz → ∃ v, w.cell? ⟨a.block, a.off + (i * sz + j), none⟩ = some v ∧ RepD w (cellsIn w) (dat ((xs.map row).getD i []) j) v := by
        intro i j hi hj
        obtain ⟨c, hr, hat⟩ := hval i hi
        have h1 := hat j hj
        rw [addr_at hsp, addr_at rfl, List.getElem?_eq_getElem (by rw [hr.1]; exact hj)] at h1
        have h2 := hr.2 j hj
        have h3 : c.getD j undef = c[j]'(by rw [hr.1]; exact hj) := by
          rw [List.getD_eq_getElem?_getD, List.getElem?_eq_getElem (by rw [hr.1]; exact hj)]; rfl
        rw [h3] at h2
        have h4 : w.cell? ⟨a.block, a.off + i * sz + j, none⟩ = some (c[j]'(by rw [hr.1]; exact hj)) := h1
        rw [Nat.add_assoc] at h4
        refine ⟨_, h4, ?_⟩
        have e : (xs.map row).getD i [] = row (xs.getD i (xs[0]'(by omega))) := by
          rw [List.getD_eq_getElem?_getD, List.getElem?_map, List.getD_eq_getElem?_getD, List.getElem?_eq_getElem (by omega)]; rfl
        rw [e]
        exact h2
      have hcell : ∀ i j, i < len → j < sz → w.cell? ⟨a.block, a.off + (i * sz + j), none⟩ = some ((w.cell? ⟨a.block, a.off + (i * sz + j), none⟩).getD undef) := fun i j hi hj => by
        obtain ⟨v, hv, _⟩ := cell i j hi hj
        rw [hv]; rfl
      have hl2 : (xs.map row).length = len := by rw [List.length_map, hxl]
      have hrep : ∀ i j, i < len → j < sz → RepD w (cellsIn w) (dat ((xs.map row).getD i []) j) ((w.cell? ⟨a.block, a.off + (i * sz + j), none⟩).getD undef) := fun i j hi hj => by
        obtain ⟨v, hv, hr⟩ := cell i j hi hj
        rw [hv]; exact hr
      refine ⟨xs, _, rfl, ?_, by omega⟩
      obtain ⟨ab, ao, asp⟩ := a
      cases hsp
      have key := RepD.list (w := w) (φ := cellsIn w) sz (xs.map row) ab ao cap (fun i j => (w.cell? ⟨ab, ao + (i * sz + j), none⟩).getD undef) (by omega) (by
        rw [hl2]
        have h3 := cell_lt (hcell (len - 1) (sz - 1) (by omega) (by omega))
        have h4 : (len - 1) * sz + (sz - 1) + 1 = len * sz := by
          obtain ⟨n, rfl⟩ : ∃ n, len = n + 1 := ⟨len - 1, by omega⟩
          rw [Nat.add_sub_cancel, Nat.add_mul, Nat.one_mul]
          omega
        have h5 : ao + ((len - 1) * sz + (sz - 1)) < cellsIn w ab := h3
        omega) (by rw [hl2]; exact hcell) (by rw [hl2]; exact fun i j hi hj => (hrep i j hi hj).one) (by rw [hl2]; exact hrep)
      rw [hl2] at key
      exact key
end
section
variable {H : Type} {enc : TypeId × Value → H} {w : World} {base : Nat} {spare : Nat → Bool} {held : Bool}
theorem T.rows_map : ∀ l : List T, T.rows l = l.map T.row
  | [] => by rw [T.rows]; rfl
  | t :: r => by rw [T.rows, T.rows_map r]; rfl
theorem W.rows_map : ∀ l : List W, W.rows l = l.map W.row
  | [] => by rw [W.rows]; rfl
  | t :: r => by rw [W.rows, W.rows_map r]; rfl
theorem cells24 : Tryd.prog.cellsOf 24 = 2 := by kernel_rfl
theorem cells36 : Tryd.prog.cellsOf 36 = 3 := by kernel_rfl
theorem cells3 : Tryd.prog.cellsOf 3 = 1 := by kernel_rfl
theorem cells22 : Tryd.prog.cellsOf 22 = 1 := by kernel_rfl
theorem cells34 : Tryd.prog.cellsOf 34 = 1 := by kernel_rfl
theorem rep_T : ∀ fuel cs x, DataW.trod enc Tryd.prog w base spare held fuel 24 cs = some x → ∃ t : T, RowRep w 2 T.row t cs := by
  intro fuel
  induction fuel using Nat.strongRecOn with
  | ind fuel ih =>
    intro cs x h
    obtain ⟨xs, n, hn, _, hl, hxs, hat⟩ := DataW.trod_struct Tryd.underlying24 h
    rw [cells24] at hl
    have f0 := hat 0 _ rfl
    have f1 := hat 1 _ rfl
    rw [List.getElem?_eq_getElem (by rw [hxs]; decide)] at f0 f1
    obtain ⟨v0, v1, rfl⟩ := two_of hl
    have f0' : DataW.trod enc Tryd.prog w base spare held n 3 (([v0, v1].drop 0).take (Tryd.prog.cellsOf 3)) = _ := f0
    have f1' : DataW.trod enc Tryd.prog w base spare held n 22 (([v0, v1].drop 1).take (Tryd.prog.cellsOf 22)) = _ := f1
    rw [cells3] at f0'
    rw [cells22] at f1'
    obtain ⟨k, hk, _, _⟩ := DataW.trod_int Tryd.underlying3 f0'
    obtain ⟨l, v, hv, hr, _⟩ := rep_slice (row := T.row) Tryd.underlying22 cells24 (by omega) (fun m hm cs y hy => ih m (by omega) cs y hy) f1'
    cases hk
    cases hv
    refine ⟨.mk k l, rfl, fun j hj => ?_⟩
    rw [T.row, T.rows_map]
    match j, hj with
    | 0, _ => exact .int _ _
    | 1, _ => exact hr
/-- Whole numbers that fit. -/
inductive W.Ok : W → Prop
  | mk (k n : Int) (l : List W) (h0 : -9223372036854775808 ≤ n) (h1 : n ≤ 9223372036854775807) (hl : ∀ c ∈ l, W.Ok c) : W.Ok (.mk k n l)
theorem rep_W : ∀ fuel cs x, DataW.trod enc Tryd.prog w base spare held fuel 36 cs = some x → ∃ t : { v : W // W.Ok v }, RowRep w 3 (fun v : { v : W // W.Ok v } => W.row v.1) t cs := by
  intro fuel
  induction fuel using Nat.strongRecOn with
  | ind fuel ih =>
    intro cs x h
    obtain ⟨xs, n, hn, _, hl, hxs, hat⟩ := DataW.trod_struct Tryd.underlying36 h
    rw [cells36] at hl
    have f0 := hat 0 _ rfl
    have f1 := hat 1 _ rfl
    have f2 := hat 2 _ rfl
    rw [List.getElem?_eq_getElem (by rw [hxs]; decide)] at f0 f1 f2
    obtain ⟨v0, v1, v2, rfl⟩ := three_of hl
    have f0' : DataW.trod enc Tryd.prog w base spare held n 3 (([v0, v1, v2].drop 0).take (Tryd.prog.cellsOf 3)) = _ := f0
    have f1' : DataW.trod enc Tryd.prog w base spare held n 3 (([v0, v1, v2].drop 1).take (Tryd.prog.cellsOf 3)) = _ := f1
    have f2' : DataW.trod enc Tryd.prog w base spare held n 34 (([v0, v1, v2].drop 2).take (Tryd.prog.cellsOf 34)) = _ := f2
    rw [cells3] at f0' f1'
    rw [cells34] at f2'
    obtain ⟨k, hk, _, _⟩ := DataW.trod_int Tryd.underlying3 f0'
    obtain ⟨m, hm, _, wf⟩ := DataW.trod_int Tryd.underlying3 f1'
    obtain ⟨l, v, hv, hr, _⟩ := rep_slice (row := fun v : { v : W // W.Ok v } => W.row v.1) Tryd.underlying34 cells36 (by omega) (fun m hm cs y hy => ih m (by omega) cs y hy) f2'
    cases hk
    cases hm
    cases hv
    have hrange : -9223372036854775808 ≤ m ∧ m ≤ 9223372036854775807 := by
      have e1 : IntKind.min .i64 = -9223372036854775808 := rfl
      have e2 : IntKind.max .i64 = 9223372036854775807 := rfl
      unfold Lit.wf at wf
      simp only [e1, e2, Bool.and_eq_true, decide_eq_true_eq] at wf
      exact wf
    refine ⟨⟨.mk k m (l.map (·.1)), .mk _ _ _ hrange.1 hrange.2 (fun c hc => ?_)⟩, rfl, fun j hj => ?_⟩
    · obtain ⟨a, _, rfl⟩ := List.mem_map.1 hc
      exact a.2
    · show RepD w (cellsIn w) (dat (W.row (.mk k m (l.map (·.1)))) j) _
      rw [W.row, W.rows_map, List.map_map]
      match j, hj with
      | 0, _ => exact .int _ _
      | 1, _ => exact .int _ _
      | 2, _ => exact hr
/-- A type, handed over. -/
theorem arg_T {fuel : Nat} {v : Value} {x : DataW H × List MemPlace} (hv : ∃ u, v = .agg u) (h : DataW.trod enc Tryd.prog w base spare held fuel 24 v.cells.toList = some x) : ∃ t : T, RepV (g0 w) t.v v := by
  obtain ⟨u, rfl⟩ := hv
  obtain ⟨t, hl, hr⟩ := rep_T _ _ _ h
  refine ⟨t, ?_⟩
  have key := RepV.agg (g := g0 w) [X.d (D.int IntKind.i64 t.k), X.d (D.list 2 (T.rows t.l))] u.toList hl (fun j hj => by
    have h1 := hr j hj
    rw [T.row_eq] at h1
    match j, hj with
    | 0, _ => exact .d _ _ h1
    | 1, _ => exact .d _ _ h1)
  exact key
theorem arg_W {fuel : Nat} {v : Value} {x : DataW H × List MemPlace} (hv : ∃ u, v = .agg u) (h : DataW.trod enc Tryd.prog w base spare held fuel 36 v.cells.toList = some x) : ∃ t : W, W.Ok t ∧ RepV (g0 w) t.v v := by
  obtain ⟨u, rfl⟩ := hv
  obtain ⟨t, hl, hr⟩ := rep_W _ _ _ h
  refine ⟨t.1, t.2, ?_⟩
  have key := RepV.agg (g := g0 w) [X.d (D.int IntKind.i64 t.1.k), X.d (D.int IntKind.i64 t.1.n), X.d (D.list 3 (W.rows t.1.l))] u.toList hl (fun j hj => by
    have h1 := hr j hj
    simp only [W.row_eq] at h1
    match j, hj with
    | 0, _ => exact .d _ _ h1
    | 1, _ => exact .d _ _ h1
    | 2, _ => exact .d _ _ h1)
  exact key
/-- A slice of values, handed over. -/
theorem arg_L {fuel : Nat} {v : Value} {x : DataW H × List MemPlace} (hv : ∃ a n c, v = .slice a n c) (h : DataW.trod enc Tryd.prog w base spare held fuel 34 v.cells.toList = some x) :
    ∃ l : List W, ((∀ t ∈ l, W.Ok t) ∧ l.length ≤ maxLen) ∧ RepV (g0 w) (V.one (X.d (D.list 3 (W.rows l)))) v := by
  obtain ⟨a, n, c, rfl⟩ := hv
  have h' : DataW.trod enc Tryd.prog w base spare held fuel 34 [.slice a n c] = some x := h
  obtain ⟨l, u, hu, hr, hl⟩ := rep_slice (row := fun v : { v : W // W.Ok v } => W.row v.1) Tryd.underlying34 cells36 (by omega) (fun m hm cs y hy => rep_W m cs y hy) h'
  cases hu
  refine ⟨l.map (·.1), ⟨fun t ht => ?_, by rw [List.length_map]; exact hl⟩, ?_⟩
  · obtain ⟨a, _, rfl⟩ := List.mem_map.1 ht
    exact a.2
  · rw [W.rows_map, List.map_map]
    exact .of_d hr
theorem cells50 : Tryd.prog.cellsOf 50 = 6 := by kernel_rfl
theorem six_of {α : Type} : ∀ {l : List α}, l.length = 6 → ∃ a b c d e f, l = [a, b, c, d, e, f]
  | [a, b, c, d, e, f], _ => ⟨a, b, c, d, e, f, rfl⟩
  | [], h => by simp at h
  | [_], h => by simp at h
  | [_, _], h => by simp at h
  | [_, _, _], h => by simp at h
  | [_, _, _, _], h => by simp at h
  | [_, _, _, _, _], h => by simp at h
  | _ :: _ :: _ :: _ :: _ :: _ :: _ :: _, h => by simp at h
theorem okWide_array' {P : Program} {w : World} {r : Reach} {base : Nat} {t : TypeId} {v : Value} {n : Nat} {e : TypeId} (ht : P.underlying t = some (.array n e)) (h : Value.okWide P w r base t v) : ∃ cs, v = .agg cs ∧ cs.size = P.cellsOf t := by
  simp only [Value.okWide, ht] at h
  obtain ⟨cs, h1, h2, _⟩ := h
  exact ⟨cs, h1, h2⟩
/-- Two values in an array, handed over. -/
theorem arg_A {fuel : Nat} {v : Value} {x : DataW H × List MemPlace} (hv : ∃ u, v = .agg u) (h : DataW.trod enc Tryd.prog w base spare held fuel 50 v.cells.toList = some x) :
    ∃ a b : W, (W.Ok a ∧ W.Ok b) ∧ RepV (g0 w) (V.agg [X.d (D.int IntKind.i64 a.k), X.d (D.int IntKind.i64 a.n), X.d (D.list 3 (W.rows a.l)), X.d (D.int IntKind.i64 b.k), X.d (D.int IntKind.i64 b.n), X.d (D.list 3 (W.rows b.l))]) v := by
  obtain ⟨u, rfl⟩ := hv
  obtain ⟨xs, m, _, _, hl, hn, hat⟩ := DataW.trod_array Tryd.underlying50 h
  rw [cells50] at hl
  obtain ⟨v0, v1, v2, v3, v4, v5, hu⟩ := six_of hl
  rw [hu] at hat
  have f0 := hat 0 (by omega)
  have f1 := hat 1 (by omega)
  rw [List.getElem?_eq_getElem (by omega)] at f0 f1
  rw [cells36] at f0 f1
  obtain ⟨a, hla, ha⟩ := rep_W _ _ _ f0
  obtain ⟨b, hlb, hb⟩ := rep_W _ _ _ f1
  refine ⟨a.1, b.1, ⟨a.2, b.2⟩, ?_⟩
  have e : u = [v0, v1, v2, v3, v4, v5].toArray := by
    have : u.toList = [v0, v1, v2, v3, v4, v5] := hu
    rw [← this]
  rw [e]
  refine RepV.agg (g := g0 w) _ [v0, v1, v2, v3, v4, v5] rfl (fun j hj => ?_)
  have ha' := fun j hj => ha j hj
  have hb' := fun j hj => hb j hj
  simp only [W.row_eq] at ha' hb'
  match j, hj with
  | 0, _ => exact .d _ _ (ha' 0 (by omega))
  | 1, _ => exact .d _ _ (ha' 1 (by omega))
  | 2, _ => exact .d _ _ (ha' 2 (by omega))
  | 3, _ => exact .d _ _ (hb' 0 (by omega))
  | 4, _ => exact .d _ _ (hb' 1 (by omega))
  | 5, _ => exact .d _ _ (hb' 2 (by omega))
end
/-- A law that is true runs so. -/
theorem law_calls {w : World} (hs : Sane2 w) {f : FuncId} {args : List V} {vs : List Value} {k : Nat} (hv : RepVs (g0 w) args vs) (h : Ak k f args [] = some (R (bV true))) :
    Calls Tryd.prog f vs.toArray w fun e w' => e = .returned (.bool true) ∧ Below w.heap.size w w' := by
  refine (((Ak_ok hs k) f args [] _ h) (g0 w) vs (since0 w) (entry0 w) hv).2.mono ?_
  rintro e w' ⟨g', rfl, ho⟩
  obtain ⟨v, rfl, hr⟩ := ho.ok rfl
  rw [hr.bool_eq]
  refine ⟨rfl, ho.step.os, ho.step.tape, ho.step.output, ho.step.size, fun b hb => (ho.step.keep b hb (fun hm => ?_)).1⟩
  rcases hm with ⟨i, h⟩ | ⟨κ, e, s, u, h, _⟩ <;> cases h
end Go.Proofs.YtkpdofiflhjahaaDoor.Ps
