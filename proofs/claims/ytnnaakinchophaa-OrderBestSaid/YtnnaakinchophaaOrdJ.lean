/- The program's Edges, Width and Fill, walked; conditions as written. -/
import Derived.Test.YtnnaakinchophaaOrdG
import Derived.Outline
namespace Go.Proofs.Ytnnaakinchophaa.Ord
set_option linter.unusedVariables false
set_option linter.unusedSimpArgs false
open Go.RowKit Go.Proofs.YtnnaakinchophaaW.PrintWords Go.Proofs.YtnnaakinchophaaW.PrintLast Go.Proofs.YtnnaakinchophaaW.PrintMore

def edB (G : Nat → Nat) (n a k : Nat) : List (Int × Int) := ((List.range' k (n - k)).filter fun b => (G a).testBit b).map (pr a)
def edA (G : Nat → Nat) (n k : Nat) : List (Int × Int) := (List.range' k (n - k)).flatMap fun a => edB G n a (a + 1)
theorem edB_end (G : Nat → Nat) (n a k : Nat) (hk : n ≤ k) : edB G n a k = [] := by
  unfold edB
  rw [show n - k = 0 by omega]
  rfl
theorem edB_step (G : Nat → Nat) (n a k : Nat) (hk : k < n) : edB G n a k = (if (G a).testBit k then [pr a k] else []) ++ edB G n a (k + 1) := by
  unfold edB
  rw [show n - k = (n - (k + 1)) + 1 by omega, List.range'_succ, List.filter_cons]
  split <;> simp_all
theorem edA_end (G : Nat → Nat) (n : Nat) : edA G n n = [] := by simp [edA]
theorem edA_step (G : Nat → Nat) (n k : Nat) (hk : k < n) : edA G n k = edB G n k (k + 1) ++ edA G n (k + 1) := by
  unfold edA
  rw [show n - k = (n - (k + 1)) + 1 by omega, List.range'_succ, List.flatMap_cons]
theorem edB_len (G : Nat → Nat) (n a k : Nat) : (edB G n a k).length ≤ n := by
  unfold edB
  rw [List.length_map]
  have h := List.length_filter_le (fun b => (G a).testBit b) (List.range' k (n - k))
  rw [List.length_range'] at h
  omega
theorem edA_len (G : Nat → Nat) (n : Nat) : ∀ d k : Nat, n - k = d → (edA G n k).length ≤ n * d := by
  intro d
  induction d with
  | zero =>
    intro k hk
    unfold edA
    rw [hk]
    simp
  | succ d ih =>
    intro k hk
    rw [edA_step G n k (by omega), List.length_append]
    have h1 := ih (k + 1) (by omega)
    have h2 := edB_len G n k (k + 1)
    rw [Nat.mul_succ]
    omega
theorem edA_len' (G : Nat → Nat) (n : Nat) (hn : n ≤ 16) : (edA G n 0).length ≤ 256 := by
  have h := edA_len G n n 0 (by omega)
  have h2 : n * n ≤ 16 * 16 := Nat.mul_le_mul hn hn
  omega
/-- What Edges says. -/
def edgesF (n : Int) (l : List (List Int)) : List (Int × Int) × Int := if rightF n l then (edA (ofG l) n.toNat 0, 0) else ([], 1)
structure EdI (w wr : World) (g : Nat) (G : Nat → Nat) (s : Value) (acc : List (Int × Int)) : Prop where
  arr : Arr wr g G
  row : Kd.R kp 48 wr w.heap.size (fun _ => True) s acc
  bel : Below w.heap.size w wr
theorem EdI.push {w W w1 : World} {g : Nat} {G : Nat → Nat} {s v1 : Value} {acc acc2 : List (Int × Int)} (h : EdI w W g G s acc) (ho : Kd.R kp 48 w1 w.heap.size (fun _ => True) v1 acc2) (hb : Below w.heap.size w w1) (hg : W.grownBy w1 s.ownBlock) : EdI w w1 g G v1 acc2 :=
  ⟨⟨(hg.block _ (blk_lt h.arr.out) (Kd.R_ne h.row h.arr.out (by decide))).trans h.arr.out⟩, ho, hb⟩
attribute [local go_sem] bit0 bit1
set_option maxHeartbeats 4000000 in
set_option maxRecDepth 100000 in
theorem edges_calls (n : Int) (A : Option Addr) (c : Nat) (l : List (List Int)) (w : World) (hr : Kd.C kl w A l.length l) (hc : l.length ≤ c) :
    Calls Try.prog 21 #[.int .i64 n, .slice A l.length c] w fun e w' => ∃ v0, e = .returned (.tuple #[v0, .int .i64 (edgesF n l).2]) ∧ Kd.R kp 48 w' w.heap.size (fun _ => True) v0 (edgesF n l).1 ∧ Below w.heap.size w w' := by
  have HC := Aside0.mk (right_calls n A c l w hr hc)
  cases hR : rightF n l with
  | false =>
    have hE : edgesF n l = ([], 1) := by unfold edgesF; rw [hR]; rfl
    rw [hR] at HC
    rw [hE]
    clear hr hR hE
    go_enter Try.func21, Try.ntmps21
    go_wp2_with fail
    refine HC.out.mono ?_
    rintro e w1 ⟨rfl, hb⟩
    have HB := Aside0.mk hb
    clear hb
    go_wp2
    go_ret2
    exact ⟨_, rfl, Kd.R_nil _ _ _ _ _, HB.out⟩
  | true =>
    have hT := rightF_true hR
    obtain ⟨N, rfl⟩ := Int.eq_ofNat_of_zero_le hT.1
    have hN : N ≤ 16 := by omega
    have hv : ∀ x ∈ l, ∀ v ∈ x, 0 ≤ v ∧ v < 16 := fun x hx v hv => by
      have := (hT.2.2.2 x hx).2 v hv
      omega
    have hE : edgesF (N : Int) l = (edA (ofG l) N 0, 0) := by unfold edgesF; rw [hR, Int.toNat_natCast]; rfl
    rw [hE]
    rw [hR] at HC
    have HV := Aside0.mk hv
    have HR := Aside0.mk hr
    clear hr hR hv hT hE
    go_enter Try.func21, Try.ntmps21
    go_wp2_with fail
    refine HC.out.mono ?_
    rintro e w1 ⟨rfl, hb⟩
    have HB := Aside0.mk hb
    have HR1 := Aside0.mk (Kd.C_below HR.out hb)
    clear hb HR HC
    go_wp2_with fail
    refine (of_calls A c l w1 HR1.out hc HV.out).mono ?_
    rintro e w2 ⟨rfl, hb⟩
    have HB2 := Aside0.mk (below_step HB.out hb)
    clear hb HB HR1
    generalize hG : ofG l = G at *
    have HGe := Aside0.mk hG
    clear hG
    have hA2 : Arr (w2.alloc (.cells (gcells fun _ => 0) 53)) w2.heap.size (fun _ => 0) := ⟨blk_new w2 _⟩
    go_wp2_with ((with_reducible refine gate_store (t := 53) (p := 6) (v := .tmp 15) rfl ?_); refine store_arr rfl (.tmp 6) (.tmp 15) rfl rfl w2.heap.size G (fun _ => 0) rfl rfl hA2 ?_; intro w3 hA3 hG3)
    have hb3 : Below w.heap.size w w3 := ((HB2.out.alloc HB2.out.size _)).grown hG3 (Nat.le_trans HB2.out.size (by simp)) (fun k hk => by cases hk; exact HB2.out.size)
    have HI0 : EdI w w3 w2.heap.size G (.slice none 0 0) [] := ⟨hA3, Kd.R_nil _ _ _ _ _, hb3⟩
    have HL := Aside0.mk (edA_len' G N hN)
    clear hA2 hA3 hG3 hb3
    go_loopw [7, 17] (fun s7 s17 wr => ∃ k : Nat, ∃ acc : List (Int × Int), k ≤ N ∧ s17 = .int .i64 (k : Int) ∧ Aside0 (acc ++ edA G N k = edA G N 0) ∧ EdI w wr w2.heap.size G s7 acc) (fun _ s17 _ => (N - (intOf s17).toNat))
    case atStart => exact ⟨0, [], by omega, rfl, ⟨rfl⟩, HI0⟩
    case round =>
      clear HI0
      obtain ⟨k, acc, hk, rfl, HA, HI⟩ := hrel
      by_cases hlt : k < N
      · have hkd : decide (k < N) = true := decide_eq_true hlt
        have hT : Aside0 (acc ++ (edB G N k (k + 1) ++ edA G N (k + 1)) = edA G N 0) := ⟨by rw [← HA.out, edA_step G N k hlt]⟩
        clear HA
        go_wp2
        go_loopw [7, 9] (fun s7 s9 wr => ∃ b : Nat, ∃ acc : List (Int × Int), b ≤ 17 ∧ s9 = .int .i64 (b : Int) ∧ Aside0 (acc ++ (edB G N k b ++ edA G N (k + 1)) = edA G N 0) ∧ EdI w wr w2.heap.size G s7 acc) (fun _ s9 _ => (17 - (intOf s9).toNat))
        case atStart => exact ⟨k + 1, acc, by omega, by go_num, hT, HI⟩
        case round =>
          clear hT HI
          obtain ⟨b, acc, hb, rfl, HA, HI⟩ := hrel
          by_cases hltb : b < N
          · have hbd : decide (b < N) = true := decide_eq_true hltb
            have hTs := edB_step G N k b hltb
            have hck := HI.arr.cell k (by omega)
            cases htb : (G k).testBit b with
            | false =>
              have hT : Aside0 (acc ++ (edB G N k (b + 1) ++ edA G N (k + 1)) = edA G N 0) := ⟨by rw [← HA.out, hTs, htb]; simp⟩
              clear hTs HA
              go_wp2
              go_roundw
              case rel => exact ⟨b + 1, acc, by omega, by go_num, hT, HI⟩
              case measure => simp [intOf]; omega
            | true =>
              have hT : Aside0 ((acc ++ [pr k b]) ++ (edB G N k (b + 1) ++ edA G N (k + 1)) = edA G N 0) := ⟨by rw [← HA.out, hTs, htb]; simp⟩
              have hL : Aside0 (acc.length ≤ 256) := ⟨by
                have h1 := HL.out
                rw [← HA.out, List.length_append] at h1
                omega⟩
              clear hTs HA
              go_wp2_with (at_builtin; refine Kd.R_append kp (w0 := w) w.heap.size rfl (.tmp 34) (.tmp 38) 35 48 (.agg #[.int .i64 0, .int .i64 0]) 16 rfl Try.underlying35 info48 rfl (by decide) (by omega) _ acc (pr k b) [.int .i64 (k : Int), .int .i64 (b : Int)] (fun _ => True) (fun _ => False) rfl rfl ?aP (fun _ hk => hk.elim) ?aF ?aO ?aB ?aS ?aL ?_; (case aP => exact kp_mkM _ _ _ _ _); (case aF => exact (fun _ _ => trivial)); (case aO => exact HI.row); (case aB => exact HI.bel); (case aS => exact HI.bel.size); (case aL => have := hL.out; omega); intro v1 w4 ho hb1 hg1 hat1; have HI1 := EdI.push HI ho hb1 hg1; clear ho hb1 hg1 hat1 HI hck)
              go_roundw
              case rel => exact ⟨b + 1, _, by omega, by go_num, hT, HI1⟩
              case measure => simp [intOf]; omega
          · have hbd : decide (b < N) = false := decide_eq_false hltb
            go_wp2
            go_roundw
            case rel => exact ⟨k + 1, acc, by omega, by go_num, ⟨by rw [← HA.out, edB_end G N k b (by omega), List.nil_append]⟩, HI⟩
            case measure => simp [intOf]; omega
      · obtain rfl : k = N := by omega
        go_wp2
        go_ret2
        refine ⟨_, rfl, ?_, HI.bel⟩
        have := HA.out
        rw [edA_end, List.append_nil] at this
        rw [HGe.out, ← this]
        exact HI.row

/-! ### all, played, Width, Fill -/
def alL (n : Int) : Nat → List Int → Option Nat
  | seen, [] => some seen
  | seen, v :: r => if v < 0 ∨ n ≤ v then none else if seen.testBit v.toNat then none else alL n (sb seen v.toNat) r
/-- What all says. -/
def allF (n : Int) (o : List Int) : Bool := (alL n 0 o).isSome && decide ((o.length : Int) = n)
attribute [local go_sem] bit0s bit1s
set_option maxHeartbeats 4000000 in
theorem all_calls (n : Nat) (A : Option Addr) (c : Nat) (o : List Int) (w : World) (hn : n ≤ 16) (hr : Kd.C (Kd.int .i64) w A o.length o) :
    Calls Try.prog 67 #[.int .i64 (n : Int), .slice A o.length c] w fun e w' => e = .returned (.bool (allF n o)) ∧ w' = w := by
  have hmax := Kd.C_max hr
  have HR := Aside0.mk hr
  clear hr
  go_enter Try.func67, Try.ntmps67
  go_wp2
  go_loopw [5, 10] (fun s5 s10 wr => ∃ k seen : Nat, k ≤ o.length ∧ s10 = .int .i64 (k : Int) ∧ s5 = .int .i64 (seen : Int) ∧ seen < 65536 ∧ Aside0 (alL n seen (o.drop k) = alL n 0 o) ∧ wr = w) (fun _ s10 _ => (o.length - (intOf s10).toNat))
  case atStart => exact ⟨0, 0, by omega, rfl, rfl, by decide, ⟨rfl⟩, rfl⟩
  case round =>
    obtain ⟨k, seen, hk, rfl, rfl, hs, HA, rfl⟩ := hrel
    by_cases hlt : k < o.length
    · obtain ⟨ad, rfl, hx⟩ := kn_at HR.out k hlt
      have hd := Aside0.mk (drop_getD 0 o k hlt)
      generalize o.getD k 0 = v at *
      have hE : Aside0 ((if v < 0 ∨ (n : Int) ≤ v then none else if seen.testBit v.toNat then none else alL n (sb seen v.toNat) (o.drop (k + 1))) = alL n 0 o) := ⟨by rw [← HA.out, hd.out]; rfl⟩
      clear hd HA
      by_cases h0 : v < 0
      · have hf : allF n o = false := by
          unfold allF
          rw [← hE.out, if_pos (Or.inl h0)]
          rfl
        have HF := Aside0.mk hf
        clear hf
        go_wp2
        go_ret
        exact ⟨by rw [HF.out]; rfl, rfl⟩
      · by_cases h1 : (n : Int) ≤ v
        · have hf : allF n o = false := by
            unfold allF
            rw [← hE.out, if_pos (Or.inr h1)]
            rfl
          have HF := Aside0.mk hf
          clear hf
          go_wp2
          go_ret
          exact ⟨by rw [HF.out]; rfl, rfl⟩
        · obtain ⟨u, rfl⟩ := Int.eq_ofNat_of_zero_le (show 0 ≤ v by omega)
          have hu : u < 16 := by omega
          have hE2 : Aside0 ((if seen.testBit u then none else alL n (sb seen u) (o.drop (k + 1))) = alL n 0 o) := ⟨by
            have h := hE.out
            rw [if_neg (by omega)] at h
            exact h⟩
          have hpv : wrap64 ((2 : Int) ^ u) = 2 ^ u := by
            rw [pow_cast]
            have : 2 ^ u < 65536 := pow_lt hu
            generalize 2 ^ u = x at *
            unfold wrap64
            omega
          have hor := or_pows seen u (by omega) (by omega)
          have hsl := sb_lt hs hu
          clear hE
          cases htb : seen.testBit u with
          | true =>
            have hf : allF n o = false := by
              unfold allF
              rw [← hE2.out, if_pos htb]
              rfl
            have HF := Aside0.mk hf
            clear hf
            go_wp2
            go_ret
            exact ⟨by rw [HF.out]; rfl, rfl⟩
          | false =>
            have hE3 : Aside0 (alL n (sb seen u) (o.drop (k + 1)) = alL n 0 o) := ⟨by rw [← hE2.out, if_neg (by rw [htb]; simp)]⟩
            clear hE2
            go_wp2
            go_roundw
            case rel => exact ⟨k + 1, sb seen u, by omega, by go_num, rfl, hsl, hE3, trivial⟩
            case measure => simp [intOf]; omega
    · obtain rfl : k = o.length := by omega
      have hf : allF n o = ((o.length : Int) == (n : Int)) := by
        unfold allF
        rw [← HA.out, List.drop_length]
        show (true && decide ((o.length : Int) = (n : Int))) = _
        rw [Bool.true_and]
        rfl
      have HF := Aside0.mk hf
      clear hf
      go_wp2
      go_ret
      exact ⟨by rw [HF.out]; rfl, rfl⟩
end Go.Proofs.Ytnnaakinchophaa.Ord
