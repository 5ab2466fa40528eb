/- The listed variables, read off the rows' condition. -/
import Derived.Test.YtkpdofiflhjahaaDoorRows
import Derived.Test.YtkpdofiflhjahaaDoorVg
import Derived.Stop.Joined
namespace Go.Proofs.YtkpdofiflhjahaaDoor
open Go Go.RowKit Go.Proofs.YtkpdofiflhjahaaDoor.Ps
def laidV : List (String × DataW Unit) := [("math/bits.deBruijn32tab", Rows.laid_math_bits_deBruijn32tab), ("math/bits.deBruijn64tab", Rows.laid_math_bits_deBruijn64tab), ("internal/strconv.uint64pow10", Rows.laid_internal_strconv_uint64pow10), ("strconv.ErrRange", Rows.laid_strconv_ErrRange), ("strconv.ErrSyntax", Rows.laid_strconv_ErrSyntax)]
set_option maxRecDepth 100000
theorem sane_of_laid {W : World} (h : laidMetH Tryd.prog laidV W) : Sane2 W := by
  rw [MakeChecks.laidMetH_plain _ _ _ (by kernel_rfl)] at h
  obtain ⟨ps, ⟨g0, t0, cs0, f0, p0, q0, hg0, ht0, hv0, hd0, ⟨g1, t1, cs1, f1, p1, q1, hg1, ht1, hv1, hd1, ⟨g2, t2, cs2, f2, p2, q2, hg2, ht2, hv2, hd2, ⟨g3, t3, cs3, f3, p3, q3, hg3, ht3, hv3, hd3, ⟨g4, t4, cs4, f4, p4, q4, hg4, ht4, hv4, hd4, _, _⟩, _⟩, _⟩, _⟩, _⟩, _⟩ := h
  have gP : Tryd.prog.globalNamed "internal/strconv.uint64pow10" = some 3 := by kernel_rfl
  have gS : Tryd.prog.globalNamed "strconv.ErrSyntax" = some 1 := by kernel_rfl
  have gR : Tryd.prog.globalNamed "strconv.ErrRange" = some 2 := by kernel_rfl
  have yP : (Tryd.prog.globals[3]?).map (·.type) = some 128 := by kernel_rfl
  have yS : (Tryd.prog.globals[1]?).map (·.type) = some 87 := by kernel_rfl
  have yR : (Tryd.prog.globals[2]?).map (·.type) = some 87 := by kernel_rfl
  obtain rfl := Option.some.inj (gP.symm.trans hg2)
  obtain rfl := Option.some.inj (yP.symm.trans ht2)
  obtain rfl := Option.some.inj (gR.symm.trans hg3)
  obtain rfl := Option.some.inj (yR.symm.trans ht3)
  obtain rfl := Option.some.inj (gS.symm.trans hg4)
  obtain rfl := Option.some.inj (yS.symm.trans ht4)
  have ifc : ∀ {cs : Array Value} {f : Nat} {name : String} {x : DataW Unit} {p : List MemPlace}, DataW.trod (fun _ => ()) Tryd.prog W 0 (fun _ => true) false f 87 cs.toList = some (.iface name x, p) → ∃ u v, cs = #[.iface u v] := fun {cs f name x p} hd => by
    obtain ⟨u, v, h⟩ := iface_cell Tryd.underlying87 hd
    exact ⟨u, v, by cases cs; simp_all⟩
  refine ⟨⟨?_, ?_⟩, ?_⟩
  · have e : (Rows.laid_internal_strconv_uint64pow10 : DataW Unit) = Lib.tabData .u64 Lib.pow10Tab := by kernel_rfl
    rw [e] at hd2
    have := Lib.cells_of_tab Tryd.underlying128 Tryd.underlying98 (by kernel_rfl) (by kernel_rfl) hd2
    unfold Lib.TabIs
    rw [hv2, ← this]
  · obtain ⟨u, v, rfl⟩ := ifc hd4
    exact ⟨u, v, hv4⟩
  · obtain ⟨u, v, rfl⟩ := ifc hd3
    exact ⟨u, v, hv3⟩
end Go.Proofs.YtkpdofiflhjahaaDoor
