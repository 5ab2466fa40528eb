/- The library's functions of this program, as calls of the evaluator. -/
import Derived.Test.YtbmcafehpgimfaaGreatShelf
import Derived.Test.YtbmcafehpgimfaaGreatPsU
import Derived.Lib.Index
namespace Go.Proofs.YtbmcafehpgimfaaGreat.Ps
set_option linter.unusedVariables false
set_option linter.unusedSimpArgs false
open Go Go.RowKit Go.Proofs
structure Sane (w : World) : Prop where
  out : ∃ m, w.cell? ⟨0, 0, none⟩ = some (.int .i64 m)
theorem Sane.lt {w : World} (h : Sane w) : 0 < w.heap.size := by
  obtain ⟨m, hm⟩ := h.out
  by_cases hz : 0 < w.heap.size
  · exact hz
  · have h0 : w.heap[0]? = none := Array.getElem?_eq_none (by omega)
    simp [World.cell?, h0] at hm
theorem Sane.below {w w' : World} (h : Sane w) (hb : Below w.heap.size w w') : Sane w' := by
  obtain ⟨m, hm⟩ := h.out
  exact ⟨m, (hb.cell (p := ⟨0, 0, none⟩) h.lt).trans hm⟩
theorem Sane.of_shaped {w : World} (h : w.ShapedOpen Tryz.prog) : Sane w := ⟨Tryz.laysM144.s1_3 w h⟩
theorem Since.sane {w0 : World} {g : G} (h : Since w0 g) (hs : Sane w0) : Sane g.w := hs.below h.below
theorem RepVs.two_eq {g : G} {x y : V} {us : List Value} (h : RepVs g [x, y] us) : ∃ u v, us = [u, v] ∧ RepV g x u ∧ RepV g y v := by
  rcases us with _ | ⟨u, _ | ⟨v, _ | ⟨z, us⟩⟩⟩
  · exact absurd h.1 (by simp)
  · exact absurd h.1 (by simp)
  · exact ⟨u, v, rfl, h.head.1, h.head.2.head.1⟩
  · exact absurd h.1 (by simp)
theorem contains_ok {w0 : World} (hs : Sane w0) (s t : ByteArray) (hb : s.size < 4294967281) :
    CallOk Tryz.prog w0 79 [dv (.str s), dv (.str t)] [] ⟨true, dv (.bool (Lib.contains s.data.toList t.data.toList)), .junk, [], 0⟩ := by
  refine lib_ok (fun us w => ?_) (fun g us hsi he hv => ?_)
  · have hf : Tryz.prog.funcs[79]? = some Tryz.f79 := Tryz.func79
    simp [callFunc, Sem.run_bind, run_program, hf]
    rfl
  · obtain ⟨u, v, rfl, hu, hv⟩ := hv.two_eq
    have e := hu.str_eq
    have e2 := hv.str_eq
    subst e e2
    obtain ⟨m, hm⟩ := (hsi.sane hs).out
    refine (Tryz.strings_Contains s t m g.w hb hm).mono ?_
    rintro e w' ⟨rfl, rfl⟩
    exact ⟨_, rfl, Below.refl _ _, .of_d (.bool _)⟩
theorem indexByte_ok {w0 : World} (s : ByteArray) (c : Int) :
    CallOk Tryz.prog w0 88 [dv (.str s), dv (.int .u8 c)] [] ⟨true, dv (.int .i64 (Lib.indexByte s.data.toList c.toNat.toUInt8)), .junk, [], 0⟩ := by
  refine lib_ok (fun us w => ?_) (fun g us hsi he hv => ?_)
  · have hf : Tryz.prog.funcs[88]? = some Tryz.f88 := Tryz.func88
    simp [callFunc, Sem.run_bind, run_program, hf]
    rfl
  · obtain ⟨u, v, rfl, hu, hv⟩ := hv.two_eq
    have e := hu.str_eq
    have e2 := hv.int_eq
    subst e e2
    refine (Tryz.strings_IndexByte s c g.w).mono ?_
    rintro e w' ⟨rfl, rfl⟩
    exact ⟨_, rfl, Below.refl _ _, .of_d (.int _ _)⟩
end Go.Proofs.YtbmcafehpgimfaaGreat.Ps
