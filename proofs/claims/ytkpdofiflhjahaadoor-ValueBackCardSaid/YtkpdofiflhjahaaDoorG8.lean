/- Values: the law on the way back. -/
import Derived.Test.YtkpdofiflhjahaaDoorGA
import Derived.Test.YtkpdofiflhjahaaDoorFQ
import Derived.Test.YtkpdofiflhjahaaDoorPvL8
import Derived.Test.YtkpdofiflhjahaaDoorVk
namespace Go.Proofs.YtkpdofiflhjahaaDoor.Ps
set_option linter.unusedVariables false
set_option linter.unusedSimpArgs false
set_option maxRecDepth 1000000
open Go Go.RowKit
theorem lawBack (t : T) (v : W) (ok : W.Ok v) : ∃ k, Ak k 8 [V.agg [X.d (D.int IntKind.i64 t.k), X.d (D.list 2 (T.rows t.l))], V.agg [X.d (D.int IntKind.i64 v.k), X.d (D.int IntKind.i64 v.n), X.d (D.list 3 (W.rows v.l))]] [] = some (R (bV true)) := by
  refine ⟨(2000000) + 60 + 1, ?_⟩
  have haw : Ak ((2000000) + 60) 13 [] [] = some (R (bV true)) := awake_all _
  generalize hk : (2000000) + 60 = k at haw ⊢
  refine (call8 k t.k (T.rows t.l) v.k v.n (W.rows v.l)).trans ?_
  rw [e8_eq]
  obtain ⟨k', rfl⟩ : ∃ k', k = k' + 1 := ⟨k - 1, by omega⟩
  have e1 : [[D.int IntKind.i64 t.k, D.list 2 (T.rows t.l)]] = T.rows [t] := by rw [T.rows_one]
  have e2 : [[D.int IntKind.i64 v.k, D.int IntKind.i64 v.n, D.list 3 (W.rows v.l)]] = W.rows [v] := by rw [W.rows_one]
  have hf := C12 k' 2000 (by omega) (by omega) (by omega) [t] (by simp)
  have hf2 := C23 k' 2000 (by omega) (by omega) (by omega) [v] (by simp) (by simp only [List.length_cons, List.length_nil]; omega)
  rw [← e1] at hf
  rw [← e2] at hf2
  rw [hf, g_oB]
  by_cases q1 : ((T.sizes [t] : Nat) : Int) ≤ 2000
  · rw [decide_eq_true q1, Bool.not_true, cond_false, hf2, g_oB]
    by_cases q2 : ((W.sizes [v] : Nat) : Int) ≤ 2000
    · have hsz : W.sizes [v] = v.size := by rw [W.sizes, W.sizes]; omega
      have hst : T.sizes [t] = t.size := by rw [T.sizes, T.sizes]; omega
      have h16 := C16 (k' + 1) (by omega) t
      unfold T.v at h16
      rw [decide_eq_true q2, Bool.not_true, cond_false, h16, g_oB]
      cases hd : deepT 40 t with
      | false => rw [Bool.not_false, cond_true, haw, g_oB]
      | true =>
        have htl := textT_len t
        have h20 := C20 (k' + 1) t (by omega) (by omega)
        have h14 := C14 (k' + 1) (textT t) (by omega) (by omega)
        rw [parseT_text t hd] at h14
        have h22 := C22 (k' + 1) t t (by omega) (by omega)
        have hwl := textW_len v ok
        have h36 := C36 (k' + 1) v ok (by omega) (by omega)
        have h34 := C34 (k' + 1) t (textW v) (by omega) (by omega)
        have h24 := C24 (k' + 1) t v (by omega) (by omega)
        have h26 := C26 (k' + 1) v (by omega) (by omega)
        obtain ⟨w, c, hw, hp, hcase⟩ := parWo_out t (textW v)
        rw [hp] at h34
        have h38 := C38 (k' + 1) w v (by omega) (by omega)
        have h24w := C24 (k' + 1) t w (by omega) (by omega)
        unfold T.v at h20 h22 h34
        unfold T.v W.v at h24 h24w
        unfold W.v at h26 h36 h38
        rw [Bool.not_true, cond_false, q8_0_eq, h20, g_oS, h14]
        refine Eq.trans (b := r_t2a2IL2oI (some (R (.tup [t.v, iV 0]))) [] _) rfl ?_
        rw [T.v, g_t2a2IL2oI, show ((0 : Int) != 0) = false from rfl, cond_false, h22, g_oB, (T.beq_iff t t).2 rfl, Bool.not_true, cond_false, q8_1_eq, h36, g_oS, h34, W.v, g_t2a3IIL3oI, h24, g_oB]
        cases hh : hasP t v with
        | true =>
          have hpv : parseV t (textW v) = some v := (parseV_iff t (textW v) v).2 ⟨hh, rfl⟩
          rcases hcase with ⟨rfl, _, h1⟩ | ⟨_, _, h1⟩
          · rw [hpv] at h1
            obtain rfl := Option.some.inj h1
            rw [cond_true, show ((0 : Int) == 0) = true from rfl, cond_true, h38, g_oB, (W.beq_iff v v).2 rfl, cond_true, h26, g_oB, has_right t v hh, cond_true, haw, g_oB]
          · rw [hpv] at h1; cases h1
        | false =>
          rw [cond_false, q8_2_eq]
          rcases hcase with ⟨rfl, _, h1⟩ | ⟨hc, _, h1⟩
          · obtain ⟨p1, p2, p3, p4⟩ := parsed_has h1
            have h36w := C36 (k' + 1) w p4 (by omega) (by omega)
            unfold W.v at h36w
            rw [show ((0 : Int) != 0) = false from rfl, cond_false, h24w, g_oB, p1, cond_true, h36w, g_oS, h36, g_oS, beqL_eq, decide_eq_true (show (ba (textW w)).data.toList = (ba (textW v)).data.toList from congrArg (fun x => (ba x).data.toList) p2.symm), cond_true, haw, g_oB]
          · rw [O8.int_neb, decide_eq_false hc, Bool.not_false, cond_true, haw, g_oB]
    · rw [decide_eq_false q2, Bool.not_false, cond_true, haw, g_oB]
  · rw [decide_eq_false q1, Bool.not_false, cond_true, haw, g_oB]
end Go.Proofs.YtkpdofiflhjahaaDoor.Ps
