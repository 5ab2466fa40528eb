/- Small lemmas on strings as lists of bytes, and on functions that are given enough rounds. -/
import Derived.Test.YtfcekcnghomiiaaLexA
import Derived.Test.YtfcekcnghomiiaaWWords
namespace Go.Proofs.Ytfcekcnghomiiaa
open Go.RowKit Go.Proofs.YtfcekcnghomiiaaW.PrintWords

/-- A list of bytes as a string. -/
def bx (l : List UInt8) : ByteArray := ⟨l.toArray⟩

theorem bx_data (l : List UInt8) : (bx l).data.toList = l := by simp [bx]
theorem bx_toList (l : List UInt8) : (bx l).toList = l := by rw [ByteArray.toList_eq, bx_data]
theorem bx_size (l : List UInt8) : (bx l).size = l.length := by simp [bx, ByteArray.size]
theorem bx_self (s : ByteArray) : bx s.data.toList = s := by
  obtain ⟨⟨l⟩⟩ := s
  rfl
theorem bx_inj {a b : List UInt8} (h : bx a = bx b) : a = b := by
  have := congrArg (fun s : ByteArray => s.data.toList) h
  simpa [bx_data] using this
theorem bx_append (a b : List UInt8) : bx a ++ bx b = bx (a ++ b) := by
  apply ByteArray.ext
  rw [ByteArray.data_append]
  simp [bx]
theorem size_list (s : ByteArray) : s.data.toList.length = s.size := data_length s
theorem ext_bx (l : List UInt8) (a b : Nat) : (bx l).extract a b = bx ((l.take b).drop a) := by
  apply ByteArray.ext
  rw [ByteArray.data_extract]
  simp [bx, List.drop_take]
theorem bt_bx (l : List UInt8) (i : Nat) (c : UInt8) (t : List UInt8) (h : l.drop i = c :: t) : bt (bx l) (i : Int) = (c.toNat : Int) := by
  have hi : i < l.length := by
    by_cases hi : i < l.length
    · exact hi
    · rw [List.drop_eq_nil_of_le (by omega)] at h; cases h
  have h2 : l[i] = c := by
    rw [List.drop_eq_getElem_cons hi] at h
    injection h
  have h3 : (i : Int).toNat < (bx l).size := by rw [bx_size]; exact hi
  rw [← bt_at (bx l) (i : Int) h3, ← h2]
  rfl
theorem drop_cases (l : List UInt8) (i : Nat) (hi : i ≤ l.length) : (i = l.length ∧ l.drop i = []) ∨ (i < l.length ∧ ∃ c t, l.drop i = c :: t ∧ l.drop (i + 1) = t) := by
  by_cases h : i < l.length
  · exact .inr ⟨h, l[i], l.drop (i + 1), List.drop_eq_getElem_cons h, rfl⟩
  · exact .inl ⟨by omega, List.drop_eq_nil_of_le (by omega)⟩

theorem w1 (i : Nat) (h : i ≤ 140737488351232) : wrap64 ((i : Int) + 1) = ((i + 1 : Nat) : Int) := by
  unfold wrap64
  omega
theorem wid {x : Int} (h0 : -9223372036854775808 ≤ x) (h1 : x ≤ 9223372036854775807) : wrap64 x = x := by
  unfold wrap64
  omega

theorem ev1 {α β : Type} {g : Nat → Option β} {f : Nat → Option α} {a : α} {r : β} (h : Ev f a) (hs : ∀ k, f k = some a → g (k + 1) = some r) : Ev g r := by
  obtain ⟨K, hK⟩ := h
  refine ⟨K + 1, fun k hk => ?_⟩
  obtain ⟨k, rfl⟩ : ∃ m, k = m + 1 := ⟨k - 1, by omega⟩
  exact hs k (hK k (by omega))
theorem ev1z {α β : Type} {g : Nat → Option β} {f : Nat → Option α} {a : α} {r : β} (h : Ev f a) (hs : ∀ k, f k = some a → g k = some r) : Ev g r := by
  obtain ⟨K, hK⟩ := h
  exact ⟨K, fun k hk => hs k (hK k hk)⟩
theorem ev0 {β : Type} {g : Nat → Option β} {r : β} (hs : ∀ k, g (k + 1) = some r) : Ev g r := ⟨1, fun k hk => by obtain ⟨k, rfl⟩ : ∃ m, k = m + 1 := ⟨k - 1, by omega⟩; exact hs k⟩
theorem ev2 {α α' β : Type} {g : Nat → Option β} {f : Nat → Option α} {f' : Nat → Option α'} {a : α} {a' : α'} {r : β} (h : Ev f a) (h' : Ev f' a') (hs : ∀ k, f k = some a → f' k = some a' → g (k + 1) = some r) : Ev g r := by
  obtain ⟨K, hK⟩ := h
  obtain ⟨K', hK'⟩ := h'
  refine ⟨K + K' + 1, fun k hk => ?_⟩
  obtain ⟨k, rfl⟩ : ∃ m, k = m + 1 := ⟨k - 1, by omega⟩
  exact hs k (hK k (by omega)) (hK' k (by omega))
theorem ev2z {α α' β : Type} {g : Nat → Option β} {f : Nat → Option α} {f' : Nat → Option α'} {a : α} {a' : α'} {r : β} (h : Ev f a) (h' : Ev f' a') (hs : ∀ k, f k = some a → f' k = some a' → g k = some r) : Ev g r := by
  obtain ⟨K, hK⟩ := h
  obtain ⟨K', hK'⟩ := h'
  exact ⟨K + K', fun k hk => hs k (hK k (by omega)) (hK' k (by omega))⟩
end Go.Proofs.Ytfcekcnghomiiaa
