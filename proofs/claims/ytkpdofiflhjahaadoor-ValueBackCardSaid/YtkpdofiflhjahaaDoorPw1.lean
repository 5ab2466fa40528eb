/- The library's functions of this program, as calls of the evaluator. -/
import Derived.Test.YtkpdofiflhjahaaDoorPsU
import Derived.Test.YtkpdofiflhjahaaDoorPw0
namespace Go.Proofs.YtkpdofiflhjahaaDoor.Ps
set_option linter.unusedVariables false
open Go Go.RowKit Go.Proofs.YtkpdofiflhjahaaDoor

theorem Since.sane {w0 : World} {g : G} (h : Since w0 g) (hs : Sane w0) : Sane g.w := hs.below h.below
theorem RepVs.one_eq {g : G} {x : V} {us : List Value} (h : RepVs g [x] us) : ∃ u, us = [u] ∧ RepV g x u := by
  rcases us with _ | ⟨u, _ | ⟨v, us⟩⟩
  · exact absurd h.1 (by simp)
  · exact ⟨u, rfl, h.head.1⟩
  · exact absurd h.1 (by simp)
theorem itoa_ok {w0 : World} (hs : Sane w0) (n : Int) (h0 : -9223372036854775808 ≤ n) (h1 : n ≤ 9223372036854775807) :
    CallOk Tryd.prog w0 63 [dv (.int .i64 n)] [] ⟨true, dv (.str ⟨(Lib.itoa n).toArray⟩), .junk, [], 0⟩ := by
  refine lib_ok (fun us w => ?_) (fun g us hsi he hv => ?_)
  · have hf : Tryd.prog.funcs[63]? = some Tryd.f63 := Tryd.func63
    simp [callFunc, Sem.run_bind, run_program, hf]
    rfl
  · obtain ⟨u, rfl, hu⟩ := hv.one_eq
    have e := hu.int_eq
    subst e
    refine (itoa_calls n _ g.w (hsi.sane hs) (if_pos ⟨h0, h1⟩)).mono ?_
    rintro e w' ⟨rfl, hb⟩
    exact ⟨_, rfl, hb, .of_d (.str _)⟩
/-- strconv.Atoi: its number, or 0 or the bound, and an error. -/
def atoiO (s : ByteArray) : V :=
  match Lib.atoiAll s.data.toList with
  | .ok v => .tup [dv (.int .i64 v), dv .nilI]
  | .range => .tup [dv (.int .i64 (Lib.atoiSat s.data.toList)), dv .err]
  | _ => .tup [dv (.int .i64 0), dv .err]
structure Sane2 (w : World) : Prop where
  sane : Sane w
  rng : ∃ tp p, w.var? Tryd.prog "strconv.ErrRange" = some #[.iface tp p]
theorem Since.sane2 {w0 : World} {g : G} (h : Since w0 g) (hs : Sane2 w0) : Sane2 g.w := by
  obtain ⟨tp, p, he⟩ := hs.rng
  exact ⟨h.sane hs.sane, tp, p, var_below he h.below⟩
theorem pair_rep {g : G} {x y : V} {u v : Value} (h : RepV g x u) (k : RepV g y v) : RepV g (.tup [x, y]) (.tuple #[u, v]) :=
  .tup [x, y] [u, v] rfl (fun j hj => by
    match j, hj with
    | 0, _ => exact h
    | 1, _ => exact k)
theorem atoi_ok {w0 : World} (hs : Sane2 w0) (s : ByteArray) (hl : s.size ≤ 281474976710656) : CallOk Tryd.prog w0 78 [dv (.str s)] [] ⟨true, atoiO s, .junk, [], 0⟩ := by
  refine lib_ok (fun us w => ?_) (fun g us hsi he hv => ?_)
  · have hf : Tryd.prog.funcs[78]? = some Tryd.f78 := Tryd.func78
    simp [callFunc, Sem.run_bind, run_program, hf]
    rfl
  · obtain ⟨u, rfl, hu⟩ := hv.one_eq
    have e := hu.str_eq
    subst e
    have hw := hsi.sane2 hs
    unfold atoiO
    rcases ha : Lib.atoiAll s.data.toList with v | _ | _
    · refine (Tryd.strconv_Atoi_ok s (by omega) v ha g.w).mono ?_
      rintro e w' ⟨rfl, hw'⟩
      refine ⟨_, rfl, ?_, pair_rep (.of_d (.int _ _)) (.of_d .nilI)⟩
      rcases hw' with rfl | ⟨t, rfl⟩
      · exact Below.refl _ _
      · exact bytes_below (Below.refl _ _) (Nat.le_refl _) 5 t
    · obtain ⟨tp, p, hp⟩ := hw.sane.err
      refine (Tryd.strconv_Atoi_syntax_var s hl ha tp p g.w hp).mono ?_
      rintro e w' ⟨M, rfl, _, _, hb⟩
      exact ⟨_, rfl, hb, pair_rep (.of_d (.int _ _)) (.of_d (.err _ _))⟩
    · obtain ⟨tp, p, hp⟩ := hw.rng
      refine (Tryd.strconv_Atoi_range_var s hl ha tp p g.w hp).mono ?_
      rintro e w' ⟨M, rfl, _, _, hb⟩
      exact ⟨_, rfl, hb, pair_rep (.of_d (.int _ _)) (.of_d (.err _ _))⟩
end Go.Proofs.YtkpdofiflhjahaaDoor.Ps
