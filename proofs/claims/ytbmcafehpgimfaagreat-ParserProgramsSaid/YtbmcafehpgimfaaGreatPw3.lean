/- The library of this program for the evaluator, and that what it says holds. -/
import Derived.Test.YtbmcafehpgimfaaGreatPw1
import Derived.Test.YtbmcafehpgimfaaGreatPw2
import Derived.Test.YtbmcafehpgimfaaGreatPu1
namespace Go.Proofs.YtbmcafehpgimfaaGreat.Ps
set_option linter.unusedVariables false
set_option linter.unusedSimpArgs false
set_option maxRecDepth 100000
open Go Go.RowKit Go.Proofs
abbrev R (v : V) : Out := ⟨true, v, .junk, [], 0⟩
def libC (f : FuncId) (args : List V) : Option Out :=
  match args with
  | [x, y] => cond (Nat.beq f 79) (gStr x fun s => gStr y fun t => cond (Nat.blt s.size 4294967281) (some (R (dv (.bool (Lib.contains s.data.toList t.data.toList))))) none)
      (cond (Nat.beq f 88) (gStr x fun s => gInt .u8 y fun c => some (R (dv (.int .i64 (Lib.indexByte s.data.toList c.toNat.toUInt8))))) none)
  | _ => none
def libV (Γ : SemL) : SemL := fun f args rows =>
  match rows with
  | [] => libC f args
  | _ => none
abbrev progV := prog
def Ak (k : Nat) : Bool → SemL := AA progV libV shp rc k
theorem libV_ok {w0 : World} (hs : Sane w0) (Γ : SemL) : SemOk Tryz.prog w0 (libV Γ) := by
  intro f args rows o h
  unfold libV at h
  split at h
  · unfold libC at h
    split at h
    · rename_i x y
      cases hf : Nat.beq f 79 with
      | true =>
        obtain rfl := Nat.eq_of_beq_eq_true hf
        rw [hf, cond_true] at h
        obtain ⟨s, rfl, h2⟩ := gStr_some h
        clear h
        obtain ⟨t, rfl, h⟩ := gStr_some h2
        clear h2
        obtain ⟨hc, h⟩ := cond_some h
        cases h
        exact contains_ok hs s t (Nat.le_of_ble_eq_true hc)
      | false =>
        rw [hf, cond_false] at h
        obtain ⟨hf2, h2⟩ := cond_some h
        clear h hf
        obtain rfl := Nat.eq_of_beq_eq_true hf2
        obtain ⟨s, rfl, h⟩ := gStr_some h2
        clear h2
        obtain ⟨c, rfl, h⟩ := gInt_some h
        cases h
        exact indexByte_ok s c
    · cases h
  · cases h
theorem findF_mem {α : Type} : ∀ (L : List (Nat × α)) (f : Nat) (fn : α), findF f L = some fn → (f, fn) ∈ L
  | [], f, fn, h => by cases h
  | (g, y) :: r, f, fn, h => by
    unfold findF at h
    cases hb : Nat.beq g f with
    | true =>
      rw [hb] at h
      obtain rfl := Nat.eq_of_beq_eq_true hb
      cases h
      exact List.mem_cons_self ..
    | false => rw [hb] at h; exact List.mem_cons_of_mem _ (findF_mem r f fn h)
theorem progV_ok : ∀ f fn, progV f = some fn → ∃ F lv, Tryz.prog.funcs[f]? = some F ∧ compFunc Tryz.prog lv F = some fn := fun f fn h => prog_ok _ (findF_mem _ _ _ h)
theorem rcV_ok : RecOk Tryz.prog rc := recOk fun f t h => by
  have := findF_mem _ _ _ h
  simp only [rcL, List.mem_cons, List.not_mem_nil, or_false, Prod.mk.injEq] at this
  exact this
theorem mixed : Tryz.prog.follows .mixedOrders = true := by kernel_rfl
theorem Ak_ok {w0 : World} (hs : Sane w0) (k : Nat) : SemOk Tryz.prog w0 (Ak k false) := (AA_ok rcV_ok mixed progV_ok (fun Γ _ => libV_ok hs Γ) k).1
end Go.Proofs.YtbmcafehpgimfaaGreat.Ps
