/- The library of this program for the evaluator, and that what it says holds. -/
import Derived.Test.YtkpdofiflhjahaaDoorPw2
import Derived.Test.YtkpdofiflhjahaaDoorPu1
namespace Go.Proofs.YtkpdofiflhjahaaDoor.Ps
set_option linter.unusedVariables false
set_option maxRecDepth 100000
open Go Go.RowKit Go.Proofs.YtkpdofiflhjahaaDoor

abbrev R (v : V) : Out := ⟨true, v, .junk, [], 0⟩
def joinC (x : V) (sep : ByteArray) : Option Out :=
  gList 1 x fun rs => (textsOf rs).bind fun l =>
    cond (Nat.ble l.length 140737488355328 && Nat.ble (Lib.join (l.map (·.data.toList)) sep.data.toList).length 140737488355328) (some (R (dv (.str (joinB l sep))))) none
def libC (f : FuncId) (args : List V) : Option Out :=
  match args with
  | [x] => cond (Nat.beq f 63) (gInt .i64 x fun n => cond (decide (-9223372036854775808 ≤ n) && decide (n ≤ 9223372036854775807)) (some (R (dv (.str ⟨(Lib.itoa n).toArray⟩)))) none)
      (cond (Nat.beq f 78) (gStr x fun s => cond (Nat.ble s.size 281474976710656) (some (R (atoiO s))) none) none)
  | [x, y] => cond (Nat.beq f 48) (gStr y fun sep => joinC x sep) none
  | _ => none
def libV (Γ : SemL) : SemL := fun f args rows =>
  match rows with
  | [] => libC f args
  | _ => none
def progV (f : FuncId) : Option SFunc := cond (Nat.beq f 48 || Nat.beq f 63 || Nat.beq f 78) none (prog f)
def Ak (k : Nat) : SemL := A progV libV shp k

theorem libV_ok {w0 : World} (hs : Sane2 w0) (Γ : SemL) : SemOk Tryd.prog w0 (libV Γ) := by
  intro f args rows o h
  unfold libV at h
  split at h
  · unfold libC at h
    split at h
    · rename_i x
      cases hf : Nat.beq f 63 with
      | true =>
        obtain rfl := Nat.eq_of_beq_eq_true hf
        rw [hf, cond_true] at h
        obtain ⟨n, rfl, h⟩ := gInt_some h
        obtain ⟨hc, h⟩ := cond_some h
        rw [Bool.and_eq_true] at hc
        cases h
        exact itoa_ok hs.sane n (of_decide_eq_true hc.1) (of_decide_eq_true hc.2)
      | false =>
        rw [hf, cond_false] at h
        obtain ⟨hf2, h2⟩ := cond_some h
        clear h hf
        obtain rfl := Nat.eq_of_beq_eq_true hf2
        obtain ⟨s, rfl, h⟩ := gStr_some h2
        obtain ⟨hc, h⟩ := cond_some h
        cases h
        exact atoi_ok hs s (Nat.le_of_ble_eq_true hc)
    · rename_i x y
      obtain ⟨hf2, h2⟩ := cond_some h
      clear h
      obtain rfl := Nat.eq_of_beq_eq_true hf2
      obtain ⟨sep, rfl, h⟩ := gStr_some h2
      unfold joinC at h
      obtain ⟨rs, h, hx⟩ := gList_some h
      cases ht : textsOf rs with
      | none => rw [ht] at h; cases h
      | some l =>
        rw [ht, Option.bind_some] at h
        obtain ⟨hc, h⟩ := cond_some h
        rw [Bool.and_eq_true] at hc
        cases h
        exact join_ok x rs l sep (fun g u hu => RepV.list hx hu) ht (Nat.le_of_ble_eq_true hc.1) (Nat.le_of_ble_eq_true hc.2)
    · cases h
  · cases h
theorem progV_ok : ∀ f fn, progV f = some fn → ∃ F lv, Tryd.prog.funcs[f]? = some F ∧ compFunc Tryd.prog lv F = some fn := by
  intro f fn h
  unfold progV at h
  have h1 : prog f = some fn := by
    revert h
    cases (Nat.beq f 48 || Nat.beq f 63 || Nat.beq f 78)
    · exact id
    · intro h; cases h
  have : ∀ (L : List (Nat × SFunc)), findF f L = some fn → (f, fn) ∈ L := by
    intro L
    induction L with
    | nil => intro h; cases h
    | cons x r ih =>
      obtain ⟨g, y⟩ := x
      intro h
      unfold findF at h
      cases hb : Nat.beq g f with
      | true =>
        rw [hb] at h
        obtain rfl := Nat.eq_of_beq_eq_true hb
        cases h
        exact List.mem_cons_self ..
      | false => rw [hb] at h; exact List.mem_cons_of_mem _ (ih h)
  exact prog_ok _ (this progL h1)
theorem mixed : Tryd.prog.follows .mixedOrders = true := by kernel_rfl
/-- What the evaluator says of this program, the machine does. -/
theorem Ak_ok {w0 : World} (hs : Sane2 w0) (k : Nat) : SemOk Tryd.prog w0 (Ak k) :=
  A_ok mixed progV_ok (fun Γ _ => libV_ok hs Γ) k
end Go.Proofs.YtkpdofiflhjahaaDoor.Ps
