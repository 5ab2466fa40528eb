/- The library of this program for the evaluator, and that what it says holds. -/
import Derived.Test.YtaphnbaiamnfpaaGreatDoorQw1
import Derived.Test.YtaphnbaiamnfpaaGreatDoorPw2
import Derived.Test.YtaphnbaiamnfpaaGreatDoorPu1
namespace Go.Proofs.YtaphnbaiamnfpaaGreatDoor.Ps
set_option linter.unusedVariables false
set_option linter.unusedSimpArgs false
set_option maxRecDepth 100000
open Go Go.RowKit Go.Proofs
abbrev R (v : V) : Out := ⟨true, v, .junk, [], 0⟩
def joinC (x : V) (sep : ByteArray) : Option Out :=
  gList 1 x fun rs => (textsOf rs).bind fun l =>
    cond (Nat.ble l.length 140737488355328 && Nat.ble (Lib.join (l.map (·.data.toList)) sep.data.toList).length 140737488355328) (some (R (dv (.str (joinB l sep))))) none
def libC (f : FuncId) (args : List V) : Option Out :=
  match args with
  | [x] => cond (Nat.beq f 56) (gInt .i64 x fun n => cond (decide (-9223372036854775808 ≤ n) && decide (n ≤ 9223372036854775807)) (some (R (dv (.str ⟨(Lib.itoa n).toArray⟩)))) none) none
  | [x, y] => cond (Nat.beq f 122) (gStr x fun s => gStr y fun t => cond (Nat.blt s.size 4294967281) (some (R (dv (.bool (Lib.contains s.data.toList t.data.toList))))) none)
      (cond (Nat.beq f 136) (gStr x fun s => gInt .u8 y fun c => some (R (dv (.int .i64 (Lib.indexByte s.data.toList c.toNat.toUInt8)))))
        (cond (Nat.beq f 54) (gStr y fun sep => joinC x sep) none))
  | _ => none
def wstrC (y : V) (rs : List (List D)) : Option Out :=
  gStr y fun s => cond (Nat.ble (rs.length + s.size) 140737488355328) (some ⟨true, .tup [i64 s.size, dv .nilI], .junk, [bRow (rs ++ bytesR s.data.toList)], 1⟩) none
def strC (rs : List (List D)) : Option Out :=
  (bytesL rs).bind fun l => cond (!l.isEmpty) (some ⟨true, dv (.str ⟨l.toArray⟩), .junk, [[.slf 0, .d .junk]], 0⟩) none
def libB (f : FuncId) (args : List V) (rs : List (List D)) : Option Out :=
  match args with
  | [.one (.ptr 0 0)] => cond (Nat.beq f 60) (strC rs) none
  | [.one (.ptr 0 0), y] => cond (Nat.beq f 53) (wstrC y rs) none
  | _ => none
def libV (Γ : SemL) : SemL := fun f args rows =>
  match rows with
  | [] => libC f args
  | [(sh, [.slf 0, .own 0 e sz rs])] => cond (Nat.beq e 5 && Nat.beq sz 1) (libB f args rs) none
  | _ => none
abbrev progV := prog
def Ak (k : Nat) : Bool → SemL := AA progV libV shp rc k
theorem libC_ok {w0 : World} (hs : Sane w0) {f : FuncId} {args : List V} {o : Out} (h : libC f args = some o) : CallOk Tryz.prog w0 f args [] o := by
  unfold libC at h
  split at h
  · rename_i x
    obtain ⟨hf2, h2⟩ := cond_some h
    clear h
    obtain rfl := Nat.eq_of_beq_eq_true hf2
    obtain ⟨n, rfl, h⟩ := gInt_some h2
    obtain ⟨hc, h⟩ := cond_some h
    rw [Bool.and_eq_true] at hc
    cases h
    exact itoa_ok hs n (of_decide_eq_true hc.1) (of_decide_eq_true hc.2)
  · rename_i x y
    cases hf : Nat.beq f 122 with
    | true =>
      obtain rfl := Nat.eq_of_beq_eq_true hf
      rw [hf, cond_true] at h
      obtain ⟨s, rfl, h2⟩ := gStr_some h
      clear h
      obtain ⟨t, rfl, h⟩ := gStr_some h2
      clear h2
      obtain ⟨hc, h⟩ := cond_some h
      cases h
      exact contains_ok hs s t (Nat.le_of_ble_eq_true hc)
    | false =>
      rw [hf, cond_false] at h
      cases hf3 : Nat.beq f 136 with
      | true =>
        obtain rfl := Nat.eq_of_beq_eq_true hf3
        rw [hf3, cond_true] at h
        obtain ⟨s, rfl, h2⟩ := gStr_some h
        clear h
        obtain ⟨c, rfl, h⟩ := gInt_some h2
        cases h
        exact indexByte_ok s c
      | false =>
        rw [hf3, cond_false] at h
        obtain ⟨hf2, h2⟩ := cond_some h
        clear h hf hf3
        obtain rfl := Nat.eq_of_beq_eq_true hf2
        obtain ⟨sep, rfl, h⟩ := gStr_some h2
        unfold joinC at h
        obtain ⟨rs, h, hx⟩ := gList_some h
        cases ht : textsOf rs with
        | none => rw [ht] at h; cases h
        | some l =>
          rw [ht, Option.bind_some] at h
          obtain ⟨hc, h⟩ := cond_some h
          rw [Bool.and_eq_true] at hc
          cases h
          exact join_ok x rs l sep (fun g u hu => RepV.list hx hu) ht (Nat.le_of_ble_eq_true hc.1) (Nat.le_of_ble_eq_true hc.2)
  · cases h
theorem libB_ok {w0 : World} {f : FuncId} {args : List V} {sh : List Lf} {rs : List (List D)} {o : Out} (h : libB f args rs = some o) : CallOk Tryz.prog w0 f args [(sh, bRow rs)] o := by
  unfold libB at h
  split at h
  · obtain ⟨hf2, h2⟩ := cond_some h
    clear h
    obtain rfl := Nat.eq_of_beq_eq_true hf2
    unfold strC at h2
    cases ht : bytesL rs with
    | none => rw [ht] at h2; cases h2
    | some l =>
      rw [ht, Option.bind_some] at h2
      obtain ⟨hc, h⟩ := cond_some h2
      cases h
      exact str_ok sh rs l ht (by intro e; rw [e] at hc; cases hc)
  · rename_i y
    obtain ⟨hf2, h2⟩ := cond_some h
    clear h
    obtain rfl := Nat.eq_of_beq_eq_true hf2
    unfold wstrC at h2
    obtain ⟨s, rfl, h⟩ := gStr_some h2
    obtain ⟨hc, h⟩ := cond_some h
    cases h
    exact wstr_ok sh rs s (Nat.le_of_ble_eq_true hc)
  · cases h
theorem libV_ok {w0 : World} (hs : Sane w0) (Γ : SemL) : SemOk Tryz.prog w0 (libV Γ) := by
  intro f args rows o h
  unfold libV at h
  split at h
  · exact libC_ok hs h
  · obtain ⟨hc, h⟩ := cond_some h
    rw [Bool.and_eq_true] at hc
    obtain rfl := Nat.eq_of_beq_eq_true hc.1
    obtain rfl := Nat.eq_of_beq_eq_true hc.2
    exact libB_ok h
  · cases h
theorem findF_mem {α : Type} : ∀ (L : List (Nat × α)) (f : Nat) (fn : α), findF f L = some fn → (f, fn) ∈ L
  | [], f, fn, h => by cases h
  | (g, y) :: r, f, fn, h => by
    unfold findF at h
    cases hb : Nat.beq g f with
    | true =>
      rw [hb] at h
      obtain rfl := Nat.eq_of_beq_eq_true hb
      cases h
      exact List.mem_cons_self ..
    | false => rw [hb] at h; exact List.mem_cons_of_mem _ (findF_mem r f fn h)
theorem progV_ok : ∀ f fn, progV f = some fn → ∃ F lv, Tryz.prog.funcs[f]? = some F ∧ compFunc Tryz.prog lv F = some fn := fun f fn h => prog_ok _ (findF_mem _ _ _ h)
theorem rcV_ok : RecOk Tryz.prog rc := recOk fun f t h => by
  have := findF_mem _ _ _ h
  simp only [rcL, List.mem_cons, List.not_mem_nil, or_false, Prod.mk.injEq] at this
  exact this
theorem mixed : Tryz.prog.follows .mixedOrders = true := by kernel_rfl
theorem Ak_ok {w0 : World} (hs : Sane w0) (k : Nat) : SemOk Tryz.prog w0 (Ak k false) := (AA_ok rcV_ok mixed progV_ok (fun Γ _ => libV_ok hs Γ) k).1
end Go.Proofs.YtaphnbaiamnfpaaGreatDoor.Ps
