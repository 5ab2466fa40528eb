/- The program's behind, walked; conditions as written. -/
import Derived.Test.YtnnaakinchophaaOrdD
namespace Go.Proofs.Ytnnaakinchophaa.Ord
set_option linter.unusedVariables false
open Go.RowKit Go.Proofs.YtnnaakinchophaaW.PrintWords Go.Proofs.YtnnaakinchophaaW.PrintLast Go.Proofs.YtnnaakinchophaaW.PrintMore

/-- X without the bits of Y. -/
def an (X Y : Nat) : Nat := X &&& (4294967295 ^^^ Y)
theorem an_bit (X Y i : Nat) (hi : i < 32) : (an X Y).testBit i = (X.testBit i && !Y.testBit i) := by
  unfold an
  rw [Nat.testBit_and, Nat.testBit_xor, show (4294967295 : Nat) = 2 ^ 32 - 1 from rfl, Nat.testBit_two_pow_sub_one]
  simp only [hi, decide_true, Bool.true_xor]
theorem an_le (X Y : Nat) : an X Y ≤ X := Nat.and_le_left
theorem andNot_nat (X Y : Nat) (hX : X < 4294967296) (hY : Y < 4294967296) : Go.bits .andNot .u32 (X : Int) (Y : Int) = ((an X Y : Nat) : Int) := by
  show IntKind.u32.wrap ((BitVec.ofInt 32 (X : Int) &&& ~~~(BitVec.ofInt 32 (Y : Int))).toNat : Int) = _
  have h : (BitVec.ofInt 32 (X : Int) &&& ~~~(BitVec.ofInt 32 (Y : Int))).toNat = an X Y := by
    apply Nat.eq_of_testBit_eq
    intro i
    rw [BitVec.ofInt_natCast, BitVec.ofInt_natCast, BitVec.testBit_toNat, BitVec.getLsbD_and, BitVec.getLsbD_not, BitVec.getLsbD_ofNat, BitVec.getLsbD_ofNat]
    by_cases hi : i < 32
    · rw [an_bit X Y i hi]
      simp only [hi, decide_true, Bool.true_and]
    · have h1 : (an X Y).testBit i = false := Nat.testBit_lt_two_pow (Nat.lt_of_lt_of_le (Nat.lt_of_le_of_lt (an_le X Y) hX) (show 2 ^ 32 ≤ 2 ^ i from Nat.pow_le_pow_right (by decide) (by omega)))
      rw [h1]
      simp [hi]
  rw [h, IntKind.wrap_u32]
  have := an_le X Y
  omega

def bhS (G : Nat → Nat) (out at_ : Nat) (s : Nat × List Int) (b : Nat) : Nat × List Int :=
  if (G at_).testBit b && !s.1.testBit b then (sb s.1 b, if out.testBit b then s.2 ++ [(b : Int)] else s.2) else s
def bhI (G : Nat → Nat) (out at_ b : Nat) (s : Nat × List Int) : Nat × List Int := (List.range' b (16 - b)).foldl (bhS G out at_) s
theorem bhI_end (G : Nat → Nat) (out at_ : Nat) (s : Nat × List Int) : bhI G out at_ 16 s = s := by simp [bhI]
theorem bhI_step (G : Nat → Nat) (out at_ b : Nat) (s : Nat × List Int) (hb : b < 16) : bhI G out at_ b s = bhI G out at_ (b + 1) (bhS G out at_ s b) := by
  unfold bhI
  rw [show 16 - b = (16 - (b + 1)) + 1 by omega, List.range'_succ, List.foldl_cons]
def bhL (G : Nat → Nat) (out : Nat) : Nat → Nat → List Int → Option Nat
  | 0, _, _ => none
  | k + 1, seen, st => if st = [] then some seen else bhL G out k (bhI G out (st.getD (st.length - 1) 0).toNat 0 (seen, st.take (st.length - 1))).1 (bhI G out (st.getD (st.length - 1) 0).toNat 0 (seen, st.take (st.length - 1))).2
/-- Who is met from v by ways through what is out. -/
def bhF (G : Nat → Nat) (v out : Nat) : Option Nat := bhL G out 17 (2 ^ v) [(v : Int)]
structure BhI (w wr : World) (G : Nat → Nat) (s : Value) (st : List Int) : Prop where
  arr : Arr wr w.heap.size G
  row : Kd.R (Kd.int .i64) 3 wr w.heap.size (fun _ => True) s st
  bel : Below w.heap.size w wr
  small : ∀ x ∈ st, ∃ n : Nat, n < 16 ∧ x = (n : Int)
theorem BhI.push {w W w1 : World} {G : Nat → Nat} {s v1 : Value} {st : List Int} {b : Nat} (h : BhI w W G s st) (ho : Kd.R (Kd.int .i64) 3 w1 w.heap.size (fun _ => True) v1 (st ++ [(b : Int)]))
    (hb : Below w.heap.size w w1) (hg : W.grownBy w1 s.ownBlock) (hlt : b < 16) : BhI w w1 G v1 (st ++ [(b : Int)]) where
  arr := ⟨(hg.block _ (blk_lt h.arr.out) (Kd.R_ne h.row h.arr.out (by decide))).trans h.arr.out⟩
  row := ho
  bel := hb
  small := fun x hx => by
    rcases List.mem_append.1 hx with hx | hx
    · exact h.small x hx
    · exact ⟨b, hlt, by simpa using hx⟩
theorem info3 : (Try.prog.info? 3).map (fun i => (i.zero, i.size, i.bytes)) = some (some (.int .i64 0), 1, 8) := by kernel_rfl
attribute [local go_sem] bit0 bit1
set_option maxHeartbeats 4000000 in
set_option maxRecDepth 100000 in
theorem behind_calls (G : Nat → Nat) (v out F : Nat) (w : World) (hv : v < 16) (hG : ∀ i, G i < 65536) (ho : out < 65536) (hF : bhF G v out = some F) :
    Calls Try.prog 40 #[.agg (gcells G), .int .i64 (v : Int), .int .u32 (out : Int)] w fun e w' => e = .returned (.int .i64 (popc (an (an F out) (2 ^ v)) : Nat)) ∧ Below w.heap.size w w' := by
  have hm := mod32 hv
  go_enter Try.func40, Try.ntmps40
  go_wp2
  go_loopg [7, 8] 17 (fun gg s7 s8 wr => ∃ seen : Nat, ∃ st : List Int, gg ≤ 17 ∧ s7 = .int .u32 (seen : Int) ∧ seen < 65536 ∧ st.length + 16 * gg ≤ 300 ∧ Aside0 (bhL G out gg seen st = some F) ∧ BhI w wr G s8 st)
  case atStart =>
    refine ⟨2 ^ v, [(v : Int)], by omega, by rw [pow_cast], pow_lt hv, by simp, ⟨hF⟩, ⟨⟨blk_alloc (blk_new w _) _⟩, ?_, ((Below.refl _ _).alloc (Nat.le_refl _) _).alloc (by simp) _, ?_⟩⟩
    · have h := own_lit (w.alloc (.cells (gcells G) 53)) w.heap.size 3 .i64 [(v : Int)] (by simp) (by simp)
      have h2 : (((w.alloc (.cells (gcells G) 53))).alloc (.cells #[.int .i64 (v : Int)] 3)).ownsRow w.heap.size 3 1 (.slice (some ⟨w.heap.size + 1, 0, none⟩) 1 1) [(v : Int)].length (encs (Value.int .i64) [(v : Int)]) := by
        simpa [nums, encs] using h
      exact Kd.R_of_own h2 (fun _ _ => trivial)
    · intro x hx
      exact ⟨v, hv, by simpa using hx⟩
  case round =>
    obtain ⟨seen, st, hgg, rfl, hseen, hst, HE, HI⟩ := hrel
    cases gk with
    | zero => exact absurd HE.out (by simp [bhL])
    | succ gk =>
      rcases List.eq_nil_or_concat st with rfl | ⟨init, x, hstx⟩
      · have hEF : seen = F := by
          have := HE.out
          simpa [bhL] using this
        have hn1 := andNot_nat seen out (by omega) (by omega)
        have hn2 := andNot_pow (an seen out) v (Nat.lt_of_le_of_lt (an_le _ _) (by omega)) (by omega)
        have hlt : cb (an seen out) v < 65536 := Nat.lt_of_le_of_lt (cb_le _ _) (Nat.lt_of_le_of_lt (an_le _ _) hseen)
        obtain ⟨A, c, rfl, hc, hC⟩ := Kd.R_reads HI.row
        have HF := Aside0.mk hEF
        clear hEF HE hC
        go_wp2_with fail
        refine (cnt_calls _ _ hlt).mono ?_
        rintro e w2 ⟨rfl, ⟨n, rfl⟩⟩
        go_wp2
        go_ret
        rw [← HF.out]
        exact ⟨rfl, pw_below_drewN HI.bel n⟩
      · obtain rfl : st = init ++ [x] := by rw [hstx, List.concat_eq_append]
        clear hstx
        obtain ⟨at_, hat, rfl⟩ := HI.small x (by simp)
        obtain ⟨A, c, rfl, hc, hC⟩ := Kd.R_reads HI.row
        obtain ⟨ad, rfl, hx⟩ := kn_at hC init.length (by simp)
        have hx' : wr.cell? (ad.add init.length) = some (.int .i64 (at_ : Int)) := by
          rw [hx]
          simp
        have hHE : Aside0 (bhL G out gk (bhI G out at_ 0 (seen, init)).1 (bhI G out at_ 0 (seen, init)).2 = some F) := ⟨by
          have h := HE.out
          unfold bhL at h
          rw [if_neg (by simp)] at h
          have e1 : ((init ++ [(at_ : Int)]).getD ((init ++ [(at_ : Int)]).length - 1) 0).toNat = at_ := by simp
          have e2 : (init ++ [(at_ : Int)]).take ((init ++ [(at_ : Int)]).length - 1) = init := by simp
          rw [e1, e2] at h
          exact h⟩
        have hrow : Kd.R (Kd.int .i64) 3 wr w.heap.size (fun _ => True) (.slice (some ad) init.length c) init := by
          have h := Kd.R_take HI.row (m := init.length) (by simp)
          have e2 : (init ++ [(at_ : Int)]).take init.length = init := by simp
          rw [e2] at h
          exact h
        have hsm : ∀ x ∈ init, ∃ n : Nat, n < 16 ∧ x = (n : Int) := fun x hx => HI.small x (by simp [hx])
        have HI2 : BhI w wr G (.slice (some ad) init.length c) init := ⟨HI.arr, hrow, HI.bel, hsm⟩
        have hlen : (init ++ [(at_ : Int)]).length = init.length + 1 := by simp
        rw [hlen] at hst hc ⊢
        clear hx hC HE hrow hsm HI hlen
        have hc1 : init.length ≤ c := by omega
        go_wp2
        go_loopw [7, 8, 29] (fun s7 s8 s29 wr => ∃ b : Nat, ∃ seen : Nat, ∃ st : List Int, b ≤ 16 ∧ s29 = .int .i64 (b : Int) ∧ s7 = .int .u32 (seen : Int) ∧ seen < 65536 ∧ st.length ≤ init.length + b ∧ Aside0 (bhL G out gk (bhI G out at_ b (seen, st)).1 (bhI G out at_ b (seen, st)).2 = some F) ∧ BhI w wr G s8 st) (fun _ _ s29 _ => (16 - (intOf s29).toNat))
        case atStart => exact ⟨0, seen, init, by omega, rfl, rfl, hseen, by omega, hHE, HI2⟩
        case round =>
          clear hHE HI2 hseen hx'
          obtain ⟨b, seen, st, hb, rfl, rfl, hseen, hst2, HE, HI⟩ := hrel
          by_cases hltb : b < 16
          · have hca := HI.arr.cell at_ hat
            have hmb := mod32 hltb
            have hor := or_pow seen b (by omega) (by omega)
            have hstep := Aside0.mk (bhI_step G out at_ b (seen, st) hltb)
            cases htb : (G at_).testBit b with
            | false =>
              have hT : Aside0 (bhL G out gk (bhI G out at_ (b + 1) (seen, st)).1 (bhI G out at_ (b + 1) (seen, st)).2 = some F) := ⟨by
                have h := HE.out
                rw [hstep.out] at h
                unfold bhS at h
                simpa only [htb, Bool.false_and, Bool.false_eq_true, if_false] using h⟩
              clear hstep HE
              go_wp2
              go_roundw
              case rel => exact ⟨b + 1, seen, st, by omega, by go_num, rfl, hseen, by omega, hT, HI⟩
              case measure => simp [intOf]; omega
            | true =>
              cases hsb : seen.testBit b with
              | true =>
                have hT : Aside0 (bhL G out gk (bhI G out at_ (b + 1) (seen, st)).1 (bhI G out at_ (b + 1) (seen, st)).2 = some F) := ⟨by
                  have h := HE.out
                  rw [hstep.out] at h
                  unfold bhS at h
                  simpa only [htb, hsb, Bool.true_and, Bool.not_true, Bool.false_eq_true, if_false] using h⟩
                clear hstep HE
                go_wp2
                go_roundw
                case rel => exact ⟨b + 1, seen, st, by omega, by go_num, rfl, hseen, by omega, hT, HI⟩
                case measure => simp [intOf]; omega
              | false =>
                have hsl := sb_lt hseen hltb
                cases hob : out.testBit b with
                | false =>
                  have hT : Aside0 (bhL G out gk (bhI G out at_ (b + 1) (sb seen b, st)).1 (bhI G out at_ (b + 1) (sb seen b, st)).2 = some F) := ⟨by
                    have h := HE.out
                    rw [hstep.out] at h
                    unfold bhS at h
                    simpa only [htb, hsb, hob, Bool.true_and, Bool.not_false, if_true, Bool.false_eq_true, if_false] using h⟩
                  clear hstep HE
                  go_wp2
                  go_roundw
                  case rel => exact ⟨b + 1, sb seen b, st, by omega, by go_num, rfl, hsl, by omega, hT, HI⟩
                  case measure => simp [intOf]; omega
                | true =>
                  have hT : Aside0 (bhL G out gk (bhI G out at_ (b + 1) (sb seen b, st ++ [(b : Int)])).1 (bhI G out at_ (b + 1) (sb seen b, st ++ [(b : Int)])).2 = some F) := ⟨by
                    have h := HE.out
                    rw [hstep.out] at h
                    unfold bhS at h
                    simpa only [htb, hsb, hob, Bool.true_and, Bool.not_false, if_true] using h⟩
                  clear hstep HE
                  go_wp2_with (at_builtin; refine Kd.R_append (Kd.int .i64) (w0 := w) w.heap.size rfl (.tmp 55) (.tmp 57) 25 3 (.int .i64 0) 8 rfl Try.underlying25 info3 rfl (by decide) (by omega) _ st (b : Int) [.int .i64 (b : Int)] (fun _ => True) (fun _ => False) rfl rfl ?aP (fun _ hk => hk.elim) ?aF ?aO ?aB ?aS ?aL ?_; (case aP => exact rfl); (case aF => exact (fun _ _ => trivial)); (case aO => exact HI.row); (case aB => exact HI.bel); (case aS => exact HI.bel.size); (case aL => omega); intro v1 w1 ho hb1 hg1 hat1; have HI1 := BhI.push HI ho hb1 hg1 hltb; clear ho hb1 hg1 hat1 HI hca)
                  go_roundw
                  case rel => exact ⟨b + 1, sb seen b, st ++ [(b : Int)], by omega, by go_num, rfl, hsl, by simp; omega, hT, HI1⟩
                  case measure => simp [intOf]; omega
          · obtain rfl : b = 16 := by omega
            go_wp2
            go_roundg gk
            case measure => omega
            case rel => exact ⟨seen, st, by omega, rfl, hseen, by omega, ⟨by have h := HE.out; rw [bhI_end] at h; exact h⟩, HI⟩
end Go.Proofs.Ytnnaakinchophaa.Ord
