/- The fact on the library's variable that strings.Contains asks of a world, carried along; and plain functions that stand for three functions of the library. -/
import Derived.Test.YtfcekcnghomiiaaShelf
import Derived.Test.YtfcekcnghomiiaaWWords
import Derived.Lib.Index
import Derived.Lib.IndexMore
import Derived.Lib.Join
namespace Go.Proofs.Ytfcekcnghomiiaa
open Go.RowKit Go.Proofs.YtfcekcnghomiiaaW.PrintWords

/-- The library's variable holds some int. -/
structure Sane (w : World) : Prop where
  out : ∃ m, w.cell? ⟨0, 0, none⟩ = some (.int .i64 m)

theorem Sane.lt {w : World} (h : Sane w) : 0 < w.heap.size := by
  obtain ⟨m, hm⟩ := h.out
  by_cases hz : 0 < w.heap.size
  · exact hz
  · have h0 : w.heap[0]? = none := Array.getElem?_eq_none (by omega)
    simp [World.cell?, h0] at hm

theorem Sane.below {w w' : World} (h : Sane w) (hb : Below w.heap.size w w') : Sane w' := by
  obtain ⟨m, hm⟩ := h.out
  exact ⟨m, (hb.cell (p := ⟨0, 0, none⟩) h.lt).trans hm⟩

theorem Sane.drewN {w : World} (h : Sane w) (n : Nat) : Sane (w.drewN n) :=
  h.below (pw_below_drewN (Below.refl _ _) n)

theorem Sane.drew {w : World} (h : Sane w) : Sane w.drew := h.below (Below.refl _ _).drew

theorem Sane.of_shaped {w : World} (h : w.ShapedOpen Try.prog) : Sane w := ⟨Try.laysM144.s1_3 w h⟩

/-- strings.Join's list of texts, put together. -/
def joined (l : List ByteArray) (sep : ByteArray) : ByteArray := ⟨(Lib.join (l.map (·.data.toList)) sep.data.toList).toArray⟩

theorem joined_nil (sep : ByteArray) : joined [] sep = ⟨#[]⟩ := by
  unfold joined Lib.join
  simp

theorem at_spot {w : World} {a : Addr} {v : Value} (h : w.cell? a = some v) : a.spot = none ∧ a.block < w.heap.size := by
  unfold World.cell? at h
  split at h
  · rename_i c t m hh
    refine ⟨?_, (Array.getElem?_eq_some_iff.1 hh).1⟩
    cases hs : a.spot with
    | none => rfl
    | some k => rw [hs] at h; simp at h
  · cases h

theorem joined_calls (A0 : Option Addr) (c0 : Nat) (l0 : List ByteArray) (a1 r : ByteArray) (w : World) (hr0 : Kd.C Kd.string w A0 l0.length l0) (hc0 : l0.length ≤ c0)
    (h : (if (joined l0 a1).size ≤ 140737488355328 ∧ l0.length ≤ 140737488355328 then some (joined l0 a1) else none) = some r) :
    Calls Try.prog 20 #[.slice A0 l0.length c0, .string a1] w fun e w' => e = .returned (.string r) ∧ Below w.heap.size w w' := by
  by_cases hb : (joined l0 a1).size ≤ 140737488355328 ∧ l0.length ≤ 140737488355328
  · rw [if_pos hb] at h
    obtain rfl := Option.some.inj h
    cases l0 with
    | nil =>
      refine (Try.strings_Join_none A0 c0 a1 w).mono ?_
      rintro e w' ⟨rfl, rfl⟩
      exact ⟨by rw [joined_nil], Below.refl _ _⟩
    | cons x xs =>
      obtain ⟨ad, cs0, rfl, _, hK0, hc0'⟩ := Kd.C_get hr0 (⟨#[]⟩ : ByteArray) 0 (by omega) (by simp only [List.length_cons]; omega)
      have hcs : cs0 = [.string x] := hK0
      have h0 := hc0' 0 (.string x) (by rw [hcs]; rfl)
      have e0 : ad.add ((0 : Int).toNat * Kd.string.sz + 0) = ad := rfl
      rw [e0] at h0
      obtain ⟨hsp, hlt0⟩ := at_spot h0
      have hcell : ∀ (j : Nat) y, (x :: xs)[j]? = some y → w.cell? ⟨ad.block, ad.off + j, none⟩ = some (.string y) := by
        intro j y hj
        obtain ⟨hlt, hy⟩ := List.getElem?_eq_some_iff.1 hj
        obtain ⟨ad', cs, e, _, hK, hc⟩ := Kd.C_get hr0 (⟨#[]⟩ : ByteArray) (j : Int) (by omega) (by omega)
        cases e
        have hK' : cs = [.string ((x :: xs).getD j ⟨#[]⟩)] := hK
        have := hc 0 (.string ((x :: xs).getD j ⟨#[]⟩)) (by rw [hK']; rfl)
        have hy' : (x :: xs).getD j ⟨#[]⟩ = y := by rw [List.getD_eq_getElem?_getD, hj]; rfl
        rw [hy'] at this
        have e1 : (j : Int).toNat * Kd.string.sz + 0 = j := by show (j : Int).toNat * 1 + 0 = j; omega
        rw [e1] at this
        have e2 : ad.add j = ⟨ad.block, ad.off + j, none⟩ := by
          obtain ⟨b, o, s⟩ := ad
          cases hsp
          unfold Addr.add
          by_cases hz : j = 0
          · rw [if_pos hz, hz]; rfl
          · rw [if_neg hz]
        rw [← e2]
        exact this
      have e3 : ad = ⟨ad.block, ad.off, none⟩ := by
        obtain ⟨b, o, s⟩ := ad
        cases hsp
        rfl
      rw [e3]
      exact Try.strings_Join ad.block ad.off c0 (x :: xs) a1 w hcell hlt0 hb.2 hc0 (by simpa [joined, ByteArray.size] using hb.1)
  · rw [if_neg hb] at h
    cases h
end Go.Proofs.Ytfcekcnghomiiaa
