/- An argument that is a slice, opened: what can be read as data is a list of plain values in the printed sense. -/
import Derived.Test.YtnnaakinchophaaOrdM
import Derived.ProofKit
import Derived.Deep.Slices
import Derived.SizedLaws
namespace Go.Proofs.Ytnnaakinchophaa
open Go.RowKit Go.ChangeShapes Go.WideShapes Go.Proofs.YtnnaakinchophaaW.PrintWords
section
variable {H : Type} {enc : TypeId × Value → H} {P : Program} {w : World} {base : Nat} {spare : Nat → Bool} {held : Bool}

/-- What type t reads as is a plain value of kind d. -/
def Opens (enc : TypeId × Value → H) (P : Program) (w : World) (base : Nat) (spare : Nat → Bool) (held : Bool) {α : Type} (d : Kd α) (ok : α → Prop) (t : TypeId) (n : Nat) : Prop :=
  ∀ fuel, fuel < n → ∀ (cs : List Value) (x : DataW H × List MemPlace), DataW.trod enc P w base spare held fuel t cs = some x → ∃ a, d.K w a cs ∧ ok a

theorem opens_int {k : IntKind} {t : TypeId} (hu : P.underlying t = some (.int k)) (n : Nat) : Opens enc P w base spare held (Kd.int k) (fun a => (Lit.int k a).wf = true) t n := by
  intro fuel _ cs x h
  obtain ⟨m, rfl, _, hw⟩ := DataW.trod_int hu h
  exact ⟨m, rfl, hw⟩
theorem opens_string {t : TypeId} (hu : P.underlying t = some .string) (n : Nat) : Opens enc P w base spare held Kd.string (fun a => a.size ≤ maxLen) t n := by
  intro fuel _ cs x h
  obtain ⟨s, rfl, _, hs⟩ := DataW.trod_string hu h
  exact ⟨s, rfl, hs⟩

theorem choose_list {α : Type} (Q : Nat → α → Prop) : ∀ n, (∀ i, i < n → ∃ a, Q i a) → ∃ xs : List α, xs.length = n ∧ ∀ i a, xs[i]? = some a → Q i a
  | 0, _ => ⟨[], rfl, fun i a h => by simp at h⟩
  | n + 1, h => by
    obtain ⟨xs, hl, hx⟩ := choose_list Q n (fun i hi => h i (by omega))
    obtain ⟨a, ha⟩ := h n (by omega)
    refine ⟨xs ++ [a], by simp [hl], fun i b hb => ?_⟩
    by_cases hi : i < xs.length
    · rw [List.getElem?_append_left hi] at hb
      exact hx i b hb
    · rw [List.getElem?_append_right (by omega)] at hb
      obtain ⟨hlt, e⟩ := List.getElem?_eq_some_iff.1 hb
      have : i = n := by simp at hlt; omega
      subst this
      have : b = a := by simpa [hl] using e.symm
      rw [this]; exact ha

theorem open_row {α : Type} {d : Kd α} {ok : α → Prop} {t e : TypeId} {n fuel : Nat} {cs : List Value} {x : DataW H × List MemPlace} (hu : P.underlying t = some (.slice e)) (hc : P.cellsOf e = d.sz) (he : Opens enc P w base spare held d ok e n) (hn : fuel ≤ n)
    (h : DataW.trod enc P w base spare held fuel t cs = some x) : ∃ (A : Option Addr) (c : Nat) (xs : List α), cs = [.slice A xs.length c] ∧ xs.length ≤ c ∧ d.C w A xs.length xs ∧ (∀ a ∈ xs, ok a) ∧ (∀ el sp, x.1 = .slice el sp → xs.length ≤ el.length) := by
  rcases DataW.trod_slice hu h with ⟨rfl, _⟩ | ⟨a, len, cap, elems, rest, m, hm, rfl, hx, hb, hl, hmx, hlen, hel, _, _⟩
  · exact ⟨none, 0, [], rfl, Nat.le_refl _, Kd.C_nil d w, fun _ h => by simp at h, fun _ _ _ => Nat.zero_le _⟩
  · have hq : ∀ i, i < len → ∃ p : α, (∃ c : List Value, c.length = d.sz ∧ d.K w p c ∧ ∀ j u, c[j]? = some u → w.cell? (a.add (i * d.sz + j)) = some u) ∧ ok p := by
      intro i hi
      have h1 := hel i hi
      have h2 : elems[i]? = some (elems[i]'(by omega)) := List.getElem?_eq_getElem (by omega)
      rw [h2] at h1
      obtain ⟨cs', hcs, ht⟩ := Option.bind_eq_some_iff.1 h1
      obtain ⟨p, hp, hok⟩ := he m (by omega) cs' _ ht
      obtain ⟨_, hcl, hat⟩ := World.cells?_some hcs
      refine ⟨p, ⟨cs', by rw [hcl, hc], hp, fun j u hj => ?_⟩, hok⟩
      have hjl : j < P.cellsOf e := by have := (List.getElem?_eq_some_iff.1 hj).1; omega
      rw [← hc, ← Go.Deep.add_add, hat j hjl]
      exact hj
    obtain ⟨xs, hxl, hxs⟩ := choose_list _ len hq
    refine ⟨some a, cap, xs, by rw [hxl], by omega, ⟨rfl, ?_, fun _ => ⟨a, rfl, fun j p hj => (hxs j p hj).1⟩⟩, ?_, ?_⟩
    · rw [hxl]; unfold maxLen at hmx; omega
    · intro p hp
      obtain ⟨i, hi, rfl⟩ := List.getElem_of_mem hp
      exact (hxs i _ (List.getElem?_eq_getElem hi)).2
    · intro el sp e
      rw [hx] at e
      injection e with e1 _
      rw [← e1, List.length_map]
      omega

/-- A slice. -/
theorem opens_slice {α : Type} {d : Kd α} {ok : α → Prop} {t e : TypeId} {n : Nat} (hu : P.underlying t = some (.slice e)) (hc : P.cellsOf e = d.sz) (he : Opens enc P w base spare held d ok e n) : Opens enc P w base spare held (Kd.slice e d) (fun xs => ∀ a ∈ xs, ok a) t n := by
  intro fuel hf cs x h
  obtain ⟨A, c, xs, rfl, hle, hC, hok, _⟩ := open_row hu hc he (Nat.le_of_lt hf) h
  exact ⟨xs, ⟨A, c, rfl, hle, hC⟩, hok⟩
/-- An argument that is a slice of slices of whole numbers. -/
theorem open_rows {a0 : Option Addr} {len0 cap0 fuel : Nat} {x : DataW H × List MemPlace} (h : DataW.trod enc Try.prog w base spare held fuel 22 (Value.slice a0 len0 cap0).cells.toList = some x) :
    ∃ xs : List (List Int), len0 = xs.length ∧ xs.length ≤ cap0 ∧ Kd.C Ord.kl w a0 xs.length xs ∧ ∀ l ∈ xs, ∀ v ∈ l, (Lit.int .i64 v).wf = true := by
  obtain ⟨A, c, xs, hcs, hle, hC, hok, _⟩ := open_row (e := 25) (d := Ord.kl) (n := fuel) Try.underlying22 (by kernel_rfl) (opens_slice Try.underlying25 (by kernel_rfl) (opens_int Try.underlying3 fuel)) (Nat.le_refl _) h
  have hcs' : a0 = A ∧ len0 = xs.length ∧ cap0 = c := by simpa [Value.cells] using hcs
  obtain ⟨rfl, rfl, rfl⟩ := hcs'
  exact ⟨xs, rfl, hle, hC, hok⟩
/-- An argument that is a slice of whole numbers. -/
theorem open_nums {a0 : Option Addr} {len0 cap0 fuel : Nat} {x : DataW H × List MemPlace} (h : DataW.trod enc Try.prog w base spare held fuel 25 (Value.slice a0 len0 cap0).cells.toList = some x) :
    ∃ xs : List Int, len0 = xs.length ∧ xs.length ≤ cap0 ∧ Kd.C (Kd.int .i64) w a0 xs.length xs ∧ ∀ v ∈ xs, (Lit.int .i64 v).wf = true := by
  obtain ⟨A, c, xs, hcs, hle, hC, hok, _⟩ := open_row (e := 3) (d := Kd.int .i64) (n := fuel) Try.underlying25 (by kernel_rfl) (opens_int Try.underlying3 fuel) (Nat.le_refl _) h
  have hcs' : a0 = A ∧ len0 = xs.length ∧ cap0 = c := by simpa [Value.cells] using hcs
  obtain ⟨rfl, rfl, rfl⟩ := hcs'
  exact ⟨xs, rfl, hle, hC, hok⟩
end
end Go.Proofs.Ytnnaakinchophaa
