/- The program's Best, walked; conditions as written. -/
import Derived.Test.YtnnaakinchophaaOrdF
import Derived.Test.YtnnaakinchophaaWTab
namespace Go.Proofs.Ytnnaakinchophaa.Ord
set_option linter.unusedVariables false
set_option linter.unusedSimpArgs false
open Go.RowKit Go.Proofs.YtnnaakinchophaaW.PrintWords Go.Proofs.YtnnaakinchophaaW.PrintLast Go.Proofs.YtnnaakinchophaaW.PrintMore

/-- How many of what is left v meets through what is out. -/
def bhN (G : Nat → Nat) (v out : Nat) : Nat := popc (an (an ((bhF G v out).getD 0) out) (2 ^ v))
def nS (G : Nat → Nat) (out : Nat) (need : List Int) (v : Nat) : List Int := if out.testBit v then need else need.set out (mn (need.getD out 0) (mx (bhN G v out : Int) (need.getD (sb out v) 0)))
def nI (G : Nat → Nat) (n out v : Nat) (need : List Int) : List Int := (List.range' v (n - v)).foldl (nS G out) need
def nO (G : Nat → Nat) (n : Nat) : Nat → List Int → List Int
  | 0, need => need
  | m + 1, need => nO G n m (nI G n m 0 (need.set m (n : Int)))
/-- The least width of what is left, by what is out. -/
def needF (G : Nat → Nat) (n : Nat) : List Int := nO G n (2 ^ n - 1) (List.replicate (2 ^ n) 0)
def selP (G : Nat → Nat) (need : List Int) (out v : Nat) : Bool := !out.testBit v && decide (mx (bhN G v out : Int) (need.getD (sb out v) 0) ≤ need.getD 0 0)
def selL (G : Nat → Nat) (n : Nat) (need : List Int) : Nat → Nat → List Int → Option (List Int)
  | 0, _, order => some order
  | m + 1, out, order => match (List.range n).find? (selP G need out) with
    | none => none
    | some v => selL G n need m (sb out v) (order ++ [(v : Int)])
def bestG (G : Nat → Nat) (n : Nat) : Option (List Int × Int) := (selL G n (needF G n) n 0 []).map fun o => (o, (needF G n).getD 0 0)
/-- What Best says. -/
def bestF (n : Int) (l : List (List Int)) : Option (List Int × Int × Int) := if rightF n l then (if n ≤ 10 then (bestG (ofG l) n.toNat).map (fun r => (r.1, r.2, 0)) else some ([], 0, 2)) else some ([], 0, 1)

theorem nI_end (G : Nat → Nat) (n out : Nat) (need : List Int) : nI G n out n need = need := by simp [nI]
theorem nI_step (G : Nat → Nat) (n out v : Nat) (need : List Int) (h : v < n) : nI G n out v need = nI G n out (v + 1) (nS G out need v) := by
  unfold nI
  rw [show n - v = (n - (v + 1)) + 1 by omega, List.range'_succ, List.foldl_cons]

def r15.T15 : Bool × List (List Nat × List Nat) := (true, [([], []), ([], []), ([], []), ([], []), ([2, 3], [2, 3]), ([4], [4]), ([], []), ([], []), ([], []), ([8], [8]), ([6, 7, 9], [6, 7, 9]), ([], []), ([], []), ([], []), ([13], [13]), ([12, 14], [12, 14]), ([11, 15], [11, 15]), ([16], [16]), ([10, 17], [10, 17]), ([5, 18], [5, 18]), ([0, 1, 0, 1, 2, 3, 4, 5, 6, 7, 8, 9, 10, 11, 12, 13, 14, 15, 16, 17, 18, 19], [0, 1]), ([20, 19, 10, 0, 1, 2, 3, 4, 5, 6, 7, 8, 9, 10, 11, 12, 13, 14, 15, 16, 17, 18, 19], [19, 20])])
def r15.B15 : List Nat := [0, 0, 0, 0, 12, 28, 0, 0, 0, 256, 960, 0, 0, 0, 8192, 28672, 63488, 129024, 262080, 524284, 1048575, 2097151]
theorem r15.tab15 : rtab .any (opsOf Try.f15 15) = r15.T15 := by kernel_rfl
theorem r15.bits15 : waitsOk r15.T15.2 r15.B15 = true := by kernel_rfl
def r15.T22 : Bool × List (List Nat × List Nat) := (true, [([], []), ([], []), ([0, 1], [0, 1]), ([2], [2]), ([3], [3]), ([4], [4]), ([5], [5]), ([5], [5]), ([5], [5]), ([8, 5], [5, 8]), ([6, 7, 9, 5, 5], [5, 6, 7, 9]), ([5], [5]), ([5], [5]), ([5], [5]), ([13, 5], [5, 13]), ([12, 14, 5], [5, 12, 14]), ([11, 15, 5], [5, 11, 15]), ([16, 5], [5, 16]), ([10, 17, 5], [5, 10, 17]), ([5], [5]), ([19, 5], [5, 19]), ([20, 5], [5, 20]), ([18, 21, 5], [5, 18, 21]), ([5, 22], [5, 22])])
def r15.B22 : List Nat := [0, 0, 3, 7, 15, 31, 63, 63, 63, 319, 1023, 63, 63, 63, 8255, 28735, 63551, 129087, 262143, 63, 524351, 1572927, 4194303, 8388607]
theorem r15.tab22 : rtab .any (opsOf Try.f15 22) = r15.T22 := by kernel_rfl
theorem r15.bits22 : waitsOk r15.T22.2 r15.B22 = true := by kernel_rfl
def r15.T23 : Bool × List (List Nat × List Nat) := (true, [([], []), ([], []), ([1], [1]), ([0, 2], [0, 2]), ([], []), ([], []), ([5], [5]), ([4, 6], [4, 6]), ([3, 3, 0, 1, 2, 3], [0, 3]), ([7, 8, 0, 1, 2, 3, 4, 5, 6, 7, 8], [4, 7])])
def r15.B23 : List Nat := [0, 0, 2, 7, 0, 0, 32, 112, 15, 511]
theorem r15.tab23 : rtab .any (opsOf Try.f15 23) = r15.T23 := by kernel_rfl
theorem r15.bits23 : waitsOk r15.T23.2 r15.B23 = true := by kernel_rfl
def r15.T25 : Bool × List (List Nat × List Nat) := (true, [([], []), ([], []), ([1], [1]), ([2], [2]), ([0, 0], [0]), ([3, 4, 0, 1, 2, 3, 4], [3]), ([5, 0, 1, 2, 3, 4, 5], [])])
def r15.B25 : List Nat := [0, 0, 2, 6, 1, 31, 63]
theorem r15.tab25 : rtab .any (opsOf Try.f15 25) = r15.T25 := by kernel_rfl
theorem r15.bits25 : waitsOk r15.T25.2 r15.B25 = true := by kernel_rfl
theorem of3_lt (a : Int) (ha : 0 ≤ a ∧ a < 16) : ∀ (x : List Int) (G : Nat → Nat), (∀ i, G i < 65536) → (∀ b ∈ x, 0 ≤ b ∧ b < 16) → ∀ i, of3 G a x i < 65536
  | [], G, hG, _ => hG
  | b :: r, G, hG, hx => by
    unfold of3
    refine of3_lt a ha r _ ?_ (fun b hb => hx b (List.mem_cons_of_mem _ hb))
    have hb := hx b List.mem_cons_self
    split
    · exact hG
    · exact up_lt hG (sb_lt (hG _) (by omega)) _
theorem of2_lt (x : List Int) (hx : ∀ b ∈ x, 0 ≤ b ∧ b < 16) : ∀ (y : List Int) (G : Nat → Nat), (∀ i, G i < 65536) → (∀ b ∈ y, 0 ≤ b ∧ b < 16) → ∀ i, of2 G x y i < 65536
  | [], G, hG, _ => hG
  | a :: r, G, hG, hy => by
    unfold of2
    exact of2_lt x hx r _ (of3_lt a (hy a List.mem_cons_self) x G hG hx) (fun b hb => hy b (List.mem_cons_of_mem _ hb))
theorem of1_lt : ∀ (l : List (List Int)) (G : Nat → Nat), (∀ i, G i < 65536) → (∀ x ∈ l, ∀ v ∈ x, 0 ≤ v ∧ v < 16) → ∀ i, of1 G l i < 65536
  | [], G, hG, _ => hG
  | x :: r, G, hG, hl => by
    unfold of1
    exact of1_lt r _ (of2_lt x (hl x List.mem_cons_self) x G hG (hl x List.mem_cons_self)) (fun y hy => hl y (List.mem_cons_of_mem _ hy))
theorem ofG_lt (l : List (List Int)) (hl : ∀ x ∈ l, ∀ v ∈ x, 0 ≤ v ∧ v < 16) : ∀ i, ofG l i < 65536 := of1_lt l _ (fun _ => by decide) hl
theorem run_load_arr {a : Act} {o : Oper} {w : World} {x : Operand} (ho : o.op = .load 53 x) {g : Nat} {G : Nat → Nat} (hx : a.eval x = .pointer (some ⟨g, 0, none⟩)) (hg : Arr w g G) : (execOp a.eval o).run Try.prog w = .ok (.value (.agg (gcells G))) w := by
  unfold execOp
  simp only [ho, hx, Instr.loadAt, Instr.sureAddr, Sem.run_bind, Sem.run_pure, Result.andThen_ok, run_loadVar_row w g 53 53 (gcells G) (0, 0) _ hg.out Try.underlying53 rfl (by kernel_rfl)]
theorem wrap_pow {v : Nat} (hv : v < 16) : wrap64 ((2 : Int) ^ v) = 2 ^ v := by
  rw [pow_cast]
  have : 2 ^ v < 65536 := pow_lt hv
  generalize 2 ^ v = x at *
  unfold wrap64
  omega
structure BestI (w wr : World) (g nb M : Nat) (G : Nat → Nat) (need : List Int) : Prop where
  arr : Arr wr g G
  row : Kd.R (Kd.int .i64) 3 wr w.heap.size (fun _ => True) (.slice (some ⟨nb, 0, none⟩) M M) need
  len : need.length = M
  bel : Below w.heap.size w wr
theorem BestI.cell {w wr : World} {g nb M : Nat} {G : Nat → Nat} {need : List Int} (h : BestI w wr g nb M G need) (i : Nat) (hi : i < M) : wr.cell? ⟨nb, i, none⟩ = some (.int .i64 (need.getD i 0)) ∧ wr.frozen? ⟨nb, i, none⟩ = false := by
  obtain ⟨_, hr, rfl, _⟩ := h
  exact Kd.R_cell (0 : Int) hr (i : Int) (by omega) (by omega)
theorem BestI.ne {w wr : World} {g nb M : Nat} {G : Nat → Nat} {need : List Int} (h : BestI w wr g nb M G need) : g ≠ nb := by
  have h1 := Kd.R_ne h.row h.arr.out (by decide)
  intro e
  exact h1 (by simp [Value.ownBlock, e])
theorem BestI.base {w wr : World} {g nb M : Nat} {G : Nat → Nat} {need : List Int} (h : BestI w wr g nb M G need) : w.heap.size ≤ nb := Kd.R_base h.row nb (by simp [Value.ownBlock])
theorem BestI.lt {w wr : World} {g nb M : Nat} {G : Nat → Nat} {need : List Int} (h : BestI w wr g nb M G need) : nb < wr.heap.size := Kd.R_lt h.row nb (by simp [Value.ownBlock])
theorem BestI.set {w wr : World} {g nb M : Nat} {G : Nat → Nat} {need : List Int} (h : BestI w wr g nb M G need) (i : Nat) (x : Int) : BestI w (wr.setCell ⟨nb, i, none⟩ (.int .i64 x)) g nb M G (need.set i x) := by
  have hne := h.ne
  have hb := h.base
  obtain ⟨ha, hr, rfl, hbel⟩ := h
  refine ⟨⟨blk_far ha.out hne _⟩, ?_, by rw [List.length_set], hbel.setCell hb _⟩
  have := (Kd.R_put hr (i : Int) x).1
  exact this
theorem BestI.grow {w wr w1 : World} {g nb M : Nat} {G : Nat → Nat} {need : List Int} (h : BestI w wr g nb M G need) (hb : Below wr.heap.size wr w1) : BestI w w1 g nb M G need :=
  ⟨h.arr.below hb, Kd.R_below h.row hb, h.len, below_then h.bel h.bel.size hb⟩

attribute [local go_sem] bit0s bit1s max2_int min2_int max_two min_two
set_option maxHeartbeats 4000000 in
set_option maxRecDepth 100000 in
theorem best_calls (n : Int) (A : Option Addr) (c : Nat) (l : List (List Int)) (r1 : List Int) (r2 r3 : Int) (w : World) (hr : Kd.C kl w A l.length l) (hc : l.length ≤ c)
    (hbh : ∀ G : Nat → Nat, (∀ i, G i < 65536) → ∀ v out, v < 16 → out < 65536 → ∃ F, bhF G v out = some F) (h : bestF n l = some (r1, r2, r3)) :
    Calls Try.prog 15 #[.int .i64 n, .slice A l.length c] w fun e w' => ∃ v0, e = .returned (.tuple #[v0, .int .i64 r2, .int .i64 r3]) ∧ Kd.R (Kd.int .i64) 3 w' w.heap.size (fun _ => True) v0 r1 ∧ Below w.heap.size w w' := by
  unfold bestF at h
  cases hR : rightF n l with
  | false =>
    rw [hR] at h
    simp only [Bool.false_eq_true, if_false, Option.some.injEq, Prod.mk.injEq] at h
    obtain ⟨rfl, rfl, rfl⟩ := h
    have HC := Aside0.mk (right_calls n A c l w hr hc)
    rw [hR] at HC
    clear hr hR
    go_enter Try.func15, Try.ntmps15
    go_wp2_with fail
    refine HC.out.mono ?_
    rintro e w1 ⟨rfl, hb⟩
    have HB := Aside0.mk hb
    clear hb
    go_wp2
    go_ret3
    exact ⟨_, rfl, Kd.R_nil _ _ _ _ _, HB.out⟩
  | true =>
    rw [hR] at h
    have hT := rightF_true hR
    by_cases h10 : n ≤ 10
    · obtain ⟨N, rfl⟩ := Int.eq_ofNat_of_zero_le hT.1
      simp only [if_true] at h
      rw [if_pos h10, Int.toNat_natCast] at h
      have hN : N ≤ 10 := by omega
      have hv : ∀ x ∈ l, ∀ v ∈ x, 0 ≤ v ∧ v < 16 := fun x hx v hv => by
        have := (hT.2.2.2 x hx).2 v hv
        omega
      have HC := Aside0.mk (right_calls (N : Int) A c l w hr hc)
      rw [hR] at HC
      have HV := Aside0.mk hv
      have HR := Aside0.mk hr
      have HH := Aside0.mk h
      have HBH := Aside0.mk hbh
      clear hr hR hv h hT hbh
      go_enter Try.func15, Try.ntmps15
      go_wp2_with fail
      refine HC.out.mono ?_
      rintro e w1 ⟨rfl, hb⟩
      have HB := Aside0.mk hb
      have HR1 := Aside0.mk (Kd.C_below HR.out hb)
      clear hb HR HC
      go_wp2_with fail
      refine (of_calls A c l w1 HR1.out hc HV.out).mono ?_
      rintro e w2 ⟨rfl, hb⟩
      have HB2 := Aside0.mk (below_step HB.out hb)
      clear hb HB HR1
      have HG0 := ofG_lt l HV.out
      generalize hG : ofG l = G at *
      have HG : Aside0 (∀ i, G i < 65536) := ⟨HG0⟩
      clear HG0
      clear hG
      have hA2 : Arr (w2.alloc (.cells (gcells fun _ => 0) 53)) w2.heap.size (fun _ => 0) := ⟨blk_new w2 _⟩
      have hd10 : decide (10 < (N : Int)) = false := decide_eq_false (by omega)
      obtain ⟨M, hM⟩ : ∃ M : Nat, 2 ^ N = M := ⟨_, rfl⟩
      have hM1 : 1 ≤ M := by rw [← hM]; exact Nat.one_le_two_pow
      have hM2 : M ≤ 1024 := by rw [← hM]; exact (show 2 ^ N ≤ 2 ^ 10 from Nat.pow_le_pow_right (by decide) hN)
      have hpow : wrap64 ((2 : Int) ^ N) = (M : Int) := by rw [pow_cast, hM]; unfold wrap64; omega
      have HM := Aside0.mk hM
      have hmk := print_make (P := Try.prog) 25 3 .i64 8 Try.underlying25 info3 (by decide) M (by omega)
      clear hM
      go_wp2_with ((with_reducible refine gate_store (t := 53) (p := 7) (v := .tmp 21) rfl ?_); refine store_arr rfl (.tmp 7) (.tmp 21) rfl rfl w2.heap.size G (fun _ => 0) rfl rfl hA2 ?_; intro w3 hA3 hG3)
      have HI0 : BestI w (w3.alloc (.cells (madeCells #[.int .i64 0] M) 3)) w2.heap.size w3.heap.size M G (List.replicate M 0) := ⟨hA3.alloc _, ?r0, List.length_replicate, ?b0⟩
      case r0 =>
        have hs3 : w.heap.size ≤ w3.heap.size := Nat.le_trans HB2.out.size (Nat.le_trans (by simp) hG3.size)
        have h := own_made w3 w.heap.size 3 .i64 M hs3 (by omega)
        have h2 : (w3.alloc (.cells (madeCells #[.int .i64 0] M) 3)).ownsRow w.heap.size 3 1 (.slice (some ⟨w3.heap.size, 0, none⟩) M M) (List.replicate M (0 : Int)).length (encs (Value.int .i64) (List.replicate M 0)) := by
          rw [List.length_replicate]
          exact h
        exact Kd.R_of_own h2 (fun _ _ => trivial)
      case b0 =>
        have hb3 : Below w.heap.size w w3 := ((HB2.out.alloc HB2.out.size _)).grown hG3 (Nat.le_trans HB2.out.size (by simp)) (fun k hk => by cases hk; exact HB2.out.size)
        exact hb3.alloc hb3.size _
      have hE0 : Aside0 (nO G N (M - 1) (List.replicate M 0) = needF G N) := ⟨by unfold needF; rw [HM.out]⟩
      clear hmk hA2
      go_loopw [9] (fun s9 wr => ∃ m : Nat, ∃ need : List Int, m + 1 ≤ M ∧ s9 = .int .i64 ((m : Int) - 1) ∧ Aside0 (nO G N m need = needF G N) ∧ BestI w wr w2.heap.size w3.heap.size M G need) (fun s9 _ => (intOf s9 + 1).toNat)
      case atStart => exact ⟨M - 1, _, by omega, by rw [show ((M - 1 : Nat) : Int) - 1 = (M : Int) - 2 by omega], hE0, HI0⟩
      case round =>
        clear HI0 hE0
        obtain ⟨m, need, hm, rfl, HE, HI⟩ := hrel
        cases m with
        | zero =>
          have e : ((0 : Nat) : Int) - 1 = -1 := by omega
          rw [e]
          clear e
          have hNe : need = needF G N := HE.out
          cases hsel : bestG G N with
          | none => rw [hsel] at HH; exact absurd HH.out (by simp)
          | some q =>
            have hq : (q.1, q.2, (0 : Int)) = (r1, r2, r3) := by
              have := HH.out
              rw [hsel] at this
              exact Option.some.inj this
            obtain ⟨rfl, h2⟩ := Prod.mk.inj hq
            obtain ⟨rfl, rfl⟩ := Prod.mk.inj h2
            unfold bestG at hsel
            rw [← hNe] at hsel
            obtain ⟨o, ho1, ho2⟩ := Option.map_eq_some_iff.1 hsel
            subst ho2
            have HS := Aside0.mk ho1
            clear hsel hq h2 hNe HE HH ho1
            obtain ⟨wd, hwd⟩ : ∃ wd, wd = wr := ⟨_, rfl⟩
            subst hwd
            have HI0 := HI
            have hM0 : 0 < M := hM1
            go_wp2
            have hR0 : Kd.R (Kd.int .i64) 3 (wd.alloc (.cells #[] 3)) wd.heap.size (fun _ => True) (.slice (some ⟨wd.heap.size, 0, none⟩) 0 0) ([] : List Int) := by
              have h := own_lit wd wd.heap.size 3 .i64 [] (Nat.le_refl _) (by simp)
              have h2 : (wd.alloc (.cells #[] 3)).ownsRow wd.heap.size 3 1 (.slice (some ⟨wd.heap.size, 0, none⟩) 0 0) ([] : List Int).length (encs (Value.int .i64) ([] : List Int)) := by
                simpa [nums, encs] using h
              exact Kd.R_of_own h2 (fun _ _ => trivial)
            have hB0 : Below wd.heap.size wd (wd.alloc (.cells #[] 3)) := below_alloc (Below.refl _ _) _
            (try simp only [hpow])
            go_loopg [11, 12] N (fun gg s11 s12 wr => ∃ out : Nat, ∃ order : List Int, order.length + gg = N ∧ s12 = .int .i64 (out : Int) ∧ out < M ∧ Aside0 (selL G N need gg out order = some o) ∧ Aside0 (Kd.R (Kd.int .i64) 3 wr wd.heap.size (fun _ => True) s11 order) ∧ Aside0 (Below wd.heap.size wd wr))
            case atStart => exact ⟨0, [], by simp, rfl, by omega, HS, ⟨hR0⟩, ⟨hB0⟩⟩
            case round =>
              clear HS hR0 hB0
              obtain ⟨out, order, hlen, rfl, hout, HS, HR, HB⟩ := hrel
              obtain ⟨Ao, co, eo, hco, hCo⟩ := Kd.R_reads HR.out
              cases gk with
              | zero =>
                have hro : order = o := Option.some.inj HS.out
                have hlN : decide (order.length < N) = false := decide_eq_false (by omega)
                have hle : order.length = N := by omega
                have HLE := Aside0.mk hle
                have HI4 := (HI.grow HB.out).grow (below_drew (Below.refl _ wr))
                have HR4 := Aside0.mk (Kd.R_drew HR.out)
                have HB4 := Aside0.mk (below_drew HB.out)
                have HRO := Aside0.mk hro
                subst eo
                clear hCo hle hro HI
                go_wp2
                refine start_ (n := 7) (S := fun w' => w'.cell? ⟨w3.heap.size, 0, none⟩ = some (.int .i64 (need.getD 0 0))) (ds := []) #[false, false, false, false, false, false, false] (by kernel_rfl) rfl rfl (HI4.cell 0 hM1).1 (fun hHeld => ?_)
                refine with_tabW r15.tab25 r15.bits25 (fun HT_ HW_ => ?_)
                generalize wr.drew = w4 at HI4 HR4 HB4 hHeld ⊢
                refine pure_ (i := 0) (N := some 109) (v := ?_) (a' := ?_) #[true, false, false, false, false, false, false] rfl rfl (any_of HT_.out (by kernel_rfl)) (fun _ _ _ h => h) (Or.inl ⟨by rfl, ?_⟩) ?_ ?_
                rotate_left
                · intro w'
                  go_simp
                  with_reducible rfl
                rotate_left
                · simp only [Act.put, List.setIfInBounds_toArray, List.set_cons_zero, List.set_cons_succ, i64_w, i32_w]
                  rfl
                refine pure_ (i := 1) (N := some 110) (v := ?_) (a' := ?_) #[true, true, false, false, false, false, false] rfl rfl (any_of HT_.out (by kernel_rfl)) (fun _ _ _ h => h) (Or.inl ⟨by rfl, ?_⟩) ?_ ?_
                rotate_left
                · intro w'
                  go_simp
                  with_reducible rfl
                rotate_left
                · simp only [Act.put, List.setIfInBounds_toArray, List.set_cons_zero, List.set_cons_succ, i64_w, i32_w]
                  rfl
                refine pure_ (i := 2) (N := some 111) (v := ?_) (a' := ?_) #[true, true, true, false, false, false, false] rfl rfl (any_of HT_.out (by kernel_rfl)) (fun _ _ _ h => h) (Or.inl ⟨by rfl, ?_⟩) ?_ ?_
                rotate_left
                · intro w'
                  go_simp
                  with_reducible rfl
                rotate_left
                · simp only [Act.put, List.setIfInBounds_toArray, List.set_cons_zero, List.set_cons_succ, i64_w, i32_w]
                  rfl
                refine pure_ (i := 4) (N := some 4) (v := ?_) (a' := ?_) #[true, true, true, false, true, false, false] rfl rfl (any_of HT_.out (by kernel_rfl)) (fun _ _ _ h => h) (Or.inl ⟨by rfl, ?_⟩) ?_ ?_
                rotate_left
                · intro w'
                  go_simp
                  with_reducible rfl
                rotate_left
                · simp only [Act.put, List.setIfInBounds_toArray, List.set_cons_zero, List.set_cons_succ, i64_w, i32_w]
                  rfl
                refine take_ (i := 3) (N := some 112) (v := ?_) (a' := ?_) #[true, true, true, true, true, false, false] rfl rfl (take_ofW HT_.out HW_.out (by kernel_rfl)) (fun _ _ _ h => h) (Or.inl ⟨by rfl, ?_⟩) hHeld ?_ ?_
                rotate_left
                · rintro w' s1
                  go_simp
                  with_reducible rfl
                rotate_left
                · simp only [Act.put, List.setIfInBounds_toArray, List.set_cons_zero, List.set_cons_succ, i64_w, i32_w]
                  rfl
                refine pure_ (i := 5) (N := some 5) (v := ?_) (a' := ?_) #[true, true, true, true, true, true, false] rfl rfl (any_of HT_.out (by kernel_rfl)) (fun _ _ _ h => h) (Or.inl ⟨by rfl, ?_⟩) ?_ ?_
                rotate_left
                · intro w'
                  go_simp
                  with_reducible rfl
                rotate_left
                · simp only [Act.put, List.setIfInBounds_toArray, List.set_cons_zero, List.set_cons_succ, i64_w, i32_w]
                  rfl
                refine pure_ (i := 6) (N := some 6) (v := ?_) (a' := ?_) #[true, true, true, true, true, true, true] rfl rfl (any_of HT_.out (by kernel_rfl)) (fun _ _ _ h => h) (Or.inl ⟨by rfl, ?_⟩) ?_ ?_
                rotate_left
                · intro w'
                  go_simp
                  with_reducible rfl
                rotate_left
                · simp only [Act.put, List.setIfInBounds_toArray, List.set_cons_zero, List.set_cons_succ, i64_w, i32_w]
                  rfl
                refine done_ (done_of HT_.out (by kernel_rfl)) ?_
                go_wp2
                go_ret3
                refine ⟨_, rfl, ?_, below_step HI0.bel HB4.out⟩
                rw [← HRO.out]
                exact Kd.R_lower HR4.out HI0.bel.size
              | succ gk =>
                have hlN : decide (order.length < N) = true := decide_eq_true (by omega)
                have hsl := HS.out
                unfold selL at hsl
                cases hfd : (List.range N).find? (selP G need out) with
                | none => rw [hfd] at hsl; exact absurd hsl (by simp)
                | some vv =>
                  rw [hfd] at hsl
                  have HS2 := Aside0.mk hsl
                  have hf0 : Aside0 ((List.range' 0 (N - 0)).find? (selP G need out) = some vv) := ⟨by rw [Nat.sub_zero, ← List.range_eq_range']; exact hfd⟩
                  have hord : order.length ≤ 10 := by omega
                  clear hsl HS hfd
                  subst eo
                  clear hCo
                  go_wp2
                  go_loopw [11, 12, 73] (fun s11 s12 s73 wr => ∃ v : Nat, v ≤ N ∧ s73 = .int .i64 (v : Int) ∧ s12 = .int .i64 (out : Int) ∧ s11 = .slice Ao order.length co ∧ Aside0 ((List.range' v (N - v)).find? (selP G need out) = some vv) ∧ Aside0 (Kd.R (Kd.int .i64) 3 wr wd.heap.size (fun _ => True) (.slice Ao order.length co) order) ∧ Aside0 (Below wd.heap.size wd wr)) (fun _ _ s73 _ => (N - (intOf s73).toNat))
                  case atStart => exact ⟨0, by omega, rfl, rfl, rfl, hf0, HR, HB⟩
                  case round =>
                    clear hf0 HR HB
                    obtain ⟨v, hv, rfl, rfl, rfl, hf, HR, HB⟩ := hrel
                    by_cases hlt : v < N
                    · have hf2 : Aside0 ((if selP G need out v = true then some v else (List.range' (v + 1) (N - (v + 1))).find? (selP G need out)) = some vv) := ⟨by
                        have h := hf.out
                        rw [show N - v = (N - (v + 1)) + 1 by omega, List.range'_succ, List.find?_cons] at h
                        split at h
                        · rename_i h1; rw [if_pos h1]; exact h
                        · rename_i h1; rw [if_neg (by rw [h1]; simp)]; exact h⟩
                      have hpv := wrap_pow (show v < 16 by omega)
                      have hwr : IntKind.u32.wrap (out : Int) = (out : Int) := by rw [IntKind.wrap_u32]; omega
                      have hor := or_pows out v (by omega) (by omega)
                      have hsM : sb out v < M := by rw [← HM.out] at hout ⊢; exact Nat.or_lt_two_pow (n := N) hout (pow_lt hlt)
                      clear hf
                      cases htb : out.testBit v with
                      | true =>
                        have hf3 : Aside0 ((List.range' (v + 1) (N - (v + 1))).find? (selP G need out) = some vv) := ⟨by
                          have h := hf2.out
                          unfold selP at h
                          rw [if_neg (by rw [htb]; simp)] at h
                          exact h⟩
                        have hb0 : (Go.bits .and .i64 ((out : Int) / 2 ^ v) 1 == 0) = false := by rw [bit0s, htb]; rfl
                        clear hf2 htb
                        go_wp2
                        go_quiet (fail)
                        go_wp2
                        go_roundw
                        case rel => exact ⟨v + 1, by omega, by go_num, rfl, rfl, hf3, ⟨Kd.R_drewN HR.out _⟩, ⟨pw_below_drewN HB.out _⟩⟩
                        case measure => simp [intOf]; omega
                      | false =>
                        obtain ⟨F, hF⟩ := HBH.out G HG.out v out (by omega) (by omega)
                        have HF := Aside0.mk hF
                        have hbn : bhN G v out = popc (an (an F out) (2 ^ v)) := by
                          unfold bhN
                          rw [hF]
                          rfl
                        have hsp : selP G need out v = decide (mx ((popc (an (an F out) (2 ^ v)) : Nat) : Int) (need.getD (sb out v) 0) ≤ need.getD 0 0) := by
                          unfold selP
                          rw [htb, hbn]
                          rfl
                        rw [hsp] at hf2
                        have hb0 : (Go.bits .and .i64 ((out : Int) / 2 ^ v) 1 == 0) = true := by rw [bit0s, htb]; rfl
                        clear hF hbn hsp htb
                        have HI4 := (HI.grow HB.out).grow (below_drew (Below.refl _ wr))
                        have HR4 := Aside0.mk (Kd.R_drew HR.out)
                        have HB4 := Aside0.mk (below_drew HB.out)
                        clear HR HB
                        go_wp2
                        refine start_ (n := 24) (S := fun w' => Arr w' w2.heap.size G ∧ w'.cell? ⟨w3.heap.size, sb out v, none⟩ = some (.int .i64 (need.getD (sb out v) 0)) ∧ w'.cell? ⟨w3.heap.size, 0, none⟩ = some (.int .i64 (need.getD 0 0))) (ds := []) #[false, false, false, false, false, false, false, false, false, false, false, false, false, false, false, false, false, false, false, false, false, false, false, false] (by kernel_rfl) rfl rfl ⟨HI4.arr, (HI4.cell (sb out v) hsM).1, (HI4.cell 0 hM1).1⟩ (fun hHeld => ?_)
                        refine with_tabW r15.tab22 r15.bits22 (fun HT_ HW_ => ?_)
                        generalize wr.drew = w4 at HI4 HR4 HB4 hHeld ⊢
                        refine pure_ (i := 0) (N := some 76) (v := ?_) (a' := ?_) #[true, false, false, false, false, false, false, false, false, false, false, false, false, false, false, false, false, false, false, false, false, false, false, false] rfl rfl (any_of HT_.out (by kernel_rfl)) (fun _ _ _ h => h) (Or.inl ⟨by rfl, ?_⟩) ?_ ?_
                        rotate_left
                        · intro w'
                          go_simp
                          with_reducible rfl
                        rotate_left
                        · simp only [Act.put, List.setIfInBounds_toArray, List.set_cons_zero, List.set_cons_succ, i64_w, i32_w]
                          rfl
                        refine pure_ (i := 1) (N := some 77) (v := ?_) (a' := ?_) #[true, true, false, false, false, false, false, false, false, false, false, false, false, false, false, false, false, false, false, false, false, false, false, false] rfl rfl (any_of HT_.out (by kernel_rfl)) (fun _ _ _ h => h) (Or.inl ⟨by rfl, ?_⟩) ?_ ?_
                        rotate_left
                        · intro w'
                          go_simp
                          with_reducible rfl
                        rotate_left
                        · simp only [Act.put, List.setIfInBounds_toArray, List.set_cons_zero, List.set_cons_succ, i64_w, i32_w]
                          rfl
                        refine pure_ (i := 2) (N := some 78) (v := ?_) (a' := ?_) #[true, true, true, false, false, false, false, false, false, false, false, false, false, false, false, false, false, false, false, false, false, false, false, false] rfl rfl (any_of HT_.out (by kernel_rfl)) (fun _ _ _ h => h) (Or.inl ⟨by rfl, ?_⟩) ?_ ?_
                        rotate_left
                        · intro w'
                          go_simp
                          with_reducible rfl
                        rotate_left
                        · simp only [Act.put, List.setIfInBounds_toArray, List.set_cons_zero, List.set_cons_succ, i64_w, i32_w]
                          rfl
                        refine pure_ (i := 3) (N := some 79) (v := ?_) (a' := ?_) #[true, true, true, true, false, false, false, false, false, false, false, false, false, false, false, false, false, false, false, false, false, false, false, false] rfl rfl (any_of HT_.out (by kernel_rfl)) (fun _ _ _ h => h) (Or.inl ⟨by rfl, ?_⟩) ?_ ?_
                        rotate_left
                        · intro w'
                          go_simp
                          with_reducible rfl
                        rotate_left
                        · simp only [Act.put, List.setIfInBounds_toArray, List.set_cons_zero, List.set_cons_succ, i64_w, i32_w]
                          rfl
                        refine pure_ (i := 4) (N := some 80) (v := ?_) (a' := ?_) #[true, true, true, true, true, false, false, false, false, false, false, false, false, false, false, false, false, false, false, false, false, false, false, false] rfl rfl (any_of HT_.out (by kernel_rfl)) (fun _ _ _ h => h) (Or.inl ⟨by rfl, ?_⟩) ?_ ?_
                        rotate_left
                        · intro w'
                          go_simp
                          with_reducible rfl
                        rotate_left
                        · simp only [Act.put, List.setIfInBounds_toArray, List.set_cons_zero, List.set_cons_succ, i64_w, i32_w]
                          rfl
                        refine pure_ (i := 5) (N := some 81) (v := ?_) (a' := ?_) #[true, true, true, true, true, true, false, false, false, false, false, false, false, false, false, false, false, false, false, false, false, false, false, false] rfl rfl (any_of HT_.out (by kernel_rfl)) (fun _ _ _ h => h) (Or.inl ⟨by rfl, ?_⟩) ?_ ?_
                        rotate_left
                        · intro w'
                          go_simp
                          with_reducible rfl
                        rotate_left
                        · simp only [Act.put, List.setIfInBounds_toArray, List.set_cons_zero, List.set_cons_succ, i64_w, i32_w]
                          rfl
                        refine pure_ (i := 7) (N := some 83) (v := ?_) (a' := ?_) #[true, true, true, true, true, true, false, true, false, false, false, false, false, false, false, false, false, false, false, false, false, false, false, false] rfl rfl (any_of HT_.out (by kernel_rfl)) (fun _ _ _ h => h) (Or.inl ⟨by rfl, ?_⟩) ?_ ?_
                        rotate_left
                        · intro w'
                          go_simp
                          with_reducible rfl
                        rotate_left
                        · simp only [Act.put, List.setIfInBounds_toArray, List.set_cons_zero, List.set_cons_succ, i64_w, i32_w]
                          rfl
                        refine pure_ (i := 8) (N := some 84) (v := ?_) (a' := ?_) #[true, true, true, true, true, true, false, true, true, false, false, false, false, false, false, false, false, false, false, false, false, false, false, false] rfl rfl (any_of HT_.out (by kernel_rfl)) (fun _ _ _ h => h) (Or.inl ⟨by rfl, ?_⟩) ?_ ?_
                        rotate_left
                        · intro w'
                          go_simp
                          with_reducible rfl
                        rotate_left
                        · simp only [Act.put, List.setIfInBounds_toArray, List.set_cons_zero, List.set_cons_succ, i64_w, i32_w]
                          rfl
                        refine pure_ (i := 9) (N := some 85) (v := ?_) (a' := ?_) #[true, true, true, true, true, true, false, true, true, true, false, false, false, false, false, false, false, false, false, false, false, false, false, false] rfl rfl (any_of HT_.out (by kernel_rfl)) (fun _ _ _ h => h) (Or.inl ⟨by rfl, ?_⟩) ?_ ?_
                        rotate_left
                        · intro w'
                          go_simp
                          with_reducible rfl
                        rotate_left
                        · simp only [Act.put, List.setIfInBounds_toArray, List.set_cons_zero, List.set_cons_succ, i64_w, i32_w]
                          rfl
                        refine pure_ (i := 11) (N := some 87) (v := ?_) (a' := ?_) #[true, true, true, true, true, true, false, true, true, true, false, true, false, false, false, false, false, false, false, false, false, false, false, false] rfl rfl (any_of HT_.out (by kernel_rfl)) (fun _ _ _ h => h) (Or.inl ⟨by rfl, ?_⟩) ?_ ?_
                        rotate_left
                        · intro w'
                          go_simp
                          with_reducible rfl
                        rotate_left
                        · simp only [Act.put, List.setIfInBounds_toArray, List.set_cons_zero, List.set_cons_succ, i64_w, i32_w]
                          rfl
                        refine pure_ (i := 12) (N := some 88) (v := ?_) (a' := ?_) #[true, true, true, true, true, true, false, true, true, true, false, true, true, false, false, false, false, false, false, false, false, false, false, false] rfl rfl (any_of HT_.out (by kernel_rfl)) (fun _ _ _ h => h) (Or.inl ⟨by rfl, ?_⟩) ?_ ?_
                        rotate_left
                        · intro w'
                          go_simp
                          with_reducible rfl
                        rotate_left
                        · simp only [Act.put, List.setIfInBounds_toArray, List.set_cons_zero, List.set_cons_succ, i64_w, i32_w]
                          rfl
                        refine pure_ (i := 13) (N := some 89) (v := ?_) (a' := ?_) #[true, true, true, true, true, true, false, true, true, true, false, true, true, true, false, false, false, false, false, false, false, false, false, false] rfl rfl (any_of HT_.out (by kernel_rfl)) (fun _ _ _ h => h) (Or.inl ⟨by rfl, ?_⟩) ?_ ?_
                        rotate_left
                        · intro w'
                          go_simp
                          with_reducible rfl
                        rotate_left
                        · simp only [Act.put, List.setIfInBounds_toArray, List.set_cons_zero, List.set_cons_succ, i64_w, i32_w]
                          rfl
                        refine pure_ (i := 14) (N := some 90) (v := ?_) (a' := ?_) #[true, true, true, true, true, true, false, true, true, true, false, true, true, true, true, false, false, false, false, false, false, false, false, false] rfl rfl (any_of HT_.out (by kernel_rfl)) (fun _ _ _ h => h) (Or.inl ⟨by rfl, ?_⟩) ?_ ?_
                        rotate_left
                        · intro w'
                          go_simp
                          with_reducible rfl
                        rotate_left
                        · simp only [Act.put, List.setIfInBounds_toArray, List.set_cons_zero, List.set_cons_succ, i64_w, i32_w]
                          rfl
                        refine pure_ (i := 15) (N := some 91) (v := ?_) (a' := ?_) #[true, true, true, true, true, true, false, true, true, true, false, true, true, true, true, true, false, false, false, false, false, false, false, false] rfl rfl (any_of HT_.out (by kernel_rfl)) (fun _ _ _ h => h) (Or.inl ⟨by rfl, ?_⟩) ?_ ?_
                        rotate_left
                        · intro w'
                          go_simp
                          with_reducible rfl
                        rotate_left
                        · simp only [Act.put, List.setIfInBounds_toArray, List.set_cons_zero, List.set_cons_succ, i64_w, i32_w]
                          rfl
                        refine pure_ (i := 16) (N := some 92) (v := ?_) (a' := ?_) #[true, true, true, true, true, true, false, true, true, true, false, true, true, true, true, true, true, false, false, false, false, false, false, false] rfl rfl (any_of HT_.out (by kernel_rfl)) (fun _ _ _ h => h) (Or.inl ⟨by rfl, ?_⟩) ?_ ?_
                        rotate_left
                        · intro w'
                          go_simp
                          with_reducible rfl
                        rotate_left
                        · simp only [Act.put, List.setIfInBounds_toArray, List.set_cons_zero, List.set_cons_succ, i64_w, i32_w]
                          rfl
                        refine pure_ (i := 19) (N := some 95) (v := ?_) (a' := ?_) #[true, true, true, true, true, true, false, true, true, true, false, true, true, true, true, true, true, false, false, true, false, false, false, false] rfl rfl (any_of HT_.out (by kernel_rfl)) (fun _ _ _ h => h) (Or.inl ⟨by rfl, ?_⟩) ?_ ?_
                        rotate_left
                        · intro w'
                          go_simp
                          with_reducible rfl
                        rotate_left
                        · simp only [Act.put, List.setIfInBounds_toArray, List.set_cons_zero, List.set_cons_succ, i64_w, i32_w]
                          rfl
                        refine pure_ (i := 20) (N := some 96) (v := ?_) (a' := ?_) #[true, true, true, true, true, true, false, true, true, true, false, true, true, true, true, true, true, false, false, true, true, false, false, false] rfl rfl (any_of HT_.out (by kernel_rfl)) (fun _ _ _ h => h) (Or.inl ⟨by rfl, ?_⟩) ?_ ?_
                        rotate_left
                        · intro w'
                          go_simp
                          with_reducible rfl
                        rotate_left
                        · simp only [Act.put, List.setIfInBounds_toArray, List.set_cons_zero, List.set_cons_succ, i64_w, i32_w]
                          rfl
                        refine take_ (i := 6) (N := some 82) (v := ?_) (a' := ?_) #[true, true, true, true, true, true, true, true, true, true, false, true, true, true, true, true, true, false, false, true, true, false, false, false] rfl rfl (take_ofW HT_.out HW_.out (by kernel_rfl)) (fun _ _ _ h => h) (Or.inl ⟨by rfl, ?_⟩) hHeld ?_ ?_
                        rotate_left
                        · rintro w' ⟨sA, _, _⟩
                          refine run_load_arr (x := .tmp 7) ?_ ?_ sA <;> rfl
                        rotate_left
                        · simp only [Act.put, List.setIfInBounds_toArray, List.set_cons_zero, List.set_cons_succ, i64_w, i32_w]
                          rfl
                        refine take_ (i := 17) (N := some 93) (v := ?_) (a' := ?_) #[true, true, true, true, true, true, true, true, true, true, false, true, true, true, true, true, true, true, false, true, true, false, false, false] rfl rfl (take_ofW HT_.out HW_.out (by kernel_rfl)) (fun _ _ _ h => h) (Or.inl ⟨by rfl, ?_⟩) hHeld ?_ ?_
                        rotate_left
                        · rintro w' ⟨_, s1, s2⟩
                          go_simp
                          with_reducible rfl
                        rotate_left
                        · simp only [Act.put, List.setIfInBounds_toArray, List.set_cons_zero, List.set_cons_succ, i64_w, i32_w]
                          rfl
                        refine take_ (i := 21) (N := some 97) (v := ?_) (a' := ?_) #[true, true, true, true, true, true, true, true, true, true, false, true, true, true, true, true, true, true, false, true, true, true, false, false] rfl rfl (take_ofW HT_.out HW_.out (by kernel_rfl)) (fun _ _ _ h => h) (Or.inl ⟨by rfl, ?_⟩) hHeld ?_ ?_
                        rotate_left
                        · rintro w' ⟨_, s1, s2⟩
                          go_simp
                          with_reducible rfl
                        rotate_left
                        · simp only [Act.put, List.setIfInBounds_toArray, List.set_cons_zero, List.set_cons_succ, i64_w, i32_w]
                          rfl
                        refine one_ (i := 10) (N := some 86) #[true, true, true, true, true, true, true, true, true, true, true, true, true, true, true, true, true, true, false, true, true, true, false, false] rfl rfl (one_of HT_.out (by kernel_rfl)) (by decide) (fun K hK => ?_)
                        refine goes_ Try.func40 (by kernel_rfl) rfl #[.agg (gcells G), .int .i64 (v : Int), .int .u32 (out : Int)] (by rfl) rfl rfl (by simp only [List.map_toArray, List.map_cons, List.map_nil]; rfl) ?_
                        refine (behind_calls G v out F _ (by omega) HG.out (by omega) HF.out).mono ?_
                        rintro e w5 ⟨rfl, hb5⟩
                        refine ⟨_, rfl, ?_⟩
                        have HI5 := HI4.grow hb5
                        have HR5 := Aside0.mk (Kd.R_below HR4.out hb5)
                        have HB5 := Aside0.mk (below_then HB4.out HB4.out.size hb5)
                        clear HI4 hb5 HR4 HB4
                        refine hK.out _ _ ⟨HI5.arr, (HI5.cell (sb out v) hsM).1, (HI5.cell 0 hM1).1⟩ (fun hHeld => ?_)
                        clear hK K
                        refine pure_ (i := 18) (N := some 94) (v := ?_) (a' := ?_) #[true, true, true, true, true, true, true, true, true, true, true, true, true, true, true, true, true, true, true, true, true, true, false, false] rfl rfl (any_of HT_.out (by kernel_rfl)) (fun _ _ _ h => h) (Or.inl ⟨by rfl, ?_⟩) ?_ ?_
                        rotate_left
                        · intro w'
                          go_simp
                          with_reducible rfl
                        rotate_left
                        · simp only [Act.put, List.setIfInBounds_toArray, List.set_cons_zero, List.set_cons_succ, i64_w, i32_w]
                          rfl
                        refine pure_ (i := 22) (N := some 98) (v := ?_) (a' := ?_) #[true, true, true, true, true, true, true, true, true, true, true, true, true, true, true, true, true, true, true, true, true, true, true, false] rfl rfl (any_of HT_.out (by kernel_rfl)) (fun _ _ _ h => h) (Or.inl ⟨by rfl, ?_⟩) ?_ ?_
                        rotate_left
                        · intro w'
                          go_simp
                          with_reducible rfl
                        rotate_left
                        · simp only [Act.put, List.setIfInBounds_toArray, List.set_cons_zero, List.set_cons_succ, i64_w, i32_w]
                          rfl
                        refine pure_ (i := 23) (N := some 99) (v := ?_) (a' := ?_) #[true, true, true, true, true, true, true, true, true, true, true, true, true, true, true, true, true, true, true, true, true, true, true, true] rfl rfl (any_of HT_.out (by kernel_rfl)) (fun _ _ _ h => h) (Or.inl ⟨by rfl, ?_⟩) ?_ ?_
                        rotate_left
                        · intro w'
                          go_simp
                          with_reducible rfl
                        rotate_left
                        · simp only [Act.put, List.setIfInBounds_toArray, List.set_cons_zero, List.set_cons_succ, i64_w, i32_w]
                          rfl
                        refine done_ (done_of HT_.out (by kernel_rfl)) ?_
                        generalize hx : (if ((popc (an (an F out) (2 ^ v)) : Nat) : Int) < need[sb out v]?.getD 0 then need[sb out v]?.getD 0 else ((popc (an (an F out) (2 ^ v)) : Nat) : Int)) = mxv
                        generalize hcase : decide (mxv ≤ need[0]?.getD 0) = bc
                        have hc2 : decide (mx ((popc (an (an F out) (2 ^ v)) : Nat) : Int) (need.getD (sb out v) 0) ≤ need.getD 0 0) = bc := by rw [← hcase, ← hx]; rfl
                        rw [hc2] at hf2
                        clear hx hcase hc2
                        cases bc with
                        | false =>
                          have hf3 : Aside0 ((List.range' (v + 1) (N - (v + 1))).find? (selP G need out) = some vv) := ⟨by
                            have h := hf2.out
                            rw [if_neg (by simp)] at h
                            exact h⟩
                          clear hf2
                          go_wp2
                          go_roundw
                          case rel => exact ⟨v + 1, by omega, by go_num, rfl, rfl, hf3, HR5, HB5⟩
                          case measure => simp [intOf]; omega
                        | true =>
                          have hvv : vv = v := by
                            have h := hf2.out
                            rw [if_pos rfl] at h
                            exact (Option.some.inj h).symm
                          have HS3 : Aside0 (selL G N need gk (sb out v) (order ++ [(v : Int)]) = some o) := ⟨by have h := HS2.out; rw [hvv] at h; exact h⟩
                          have HR6 := Aside0.mk (Kd.R_drew HR5.out)
                          have HB6 := Aside0.mk (below_drew HB5.out)
                          clear hvv hf2 HR5 HB5 HS2
                          go_wp2
                          refine start_ (n := 10) (S := fun _ => True) (ds := []) #[false, false, false, false, false, false, false, false, false, false] (by kernel_rfl) rfl rfl trivial (fun hHeld => ?_)
                          refine with_tabW r15.tab23 r15.bits23 (fun HT_ HW_ => ?_)
                          generalize w5.drew = w6 at HR6 HB6 hHeld ⊢
                          refine pure_ (i := 0) (N := some 100) (v := ?_) (a' := ?_) #[true, false, false, false, false, false, false, false, false, false] rfl rfl (any_of HT_.out (by kernel_rfl)) (fun _ _ _ h => h) (Or.inl ⟨by rfl, ?_⟩) ?_ ?_
                          rotate_left
                          · intro w'
                            go_simp
                            with_reducible rfl
                          rotate_left
                          · simp only [Act.put, List.setIfInBounds_toArray, List.set_cons_zero, List.set_cons_succ, i64_w, i32_w]
                            rfl
                          refine pure_ (i := 1) (N := some 101) (v := ?_) (a' := ?_) #[true, true, false, false, false, false, false, false, false, false] rfl rfl (any_of HT_.out (by kernel_rfl)) (fun _ _ _ h => h) (Or.inl ⟨by rfl, ?_⟩) ?_ ?_
                          rotate_left
                          · intro w'
                            go_simp
                            with_reducible rfl
                          rotate_left
                          · simp only [Act.put, List.setIfInBounds_toArray, List.set_cons_zero, List.set_cons_succ, i64_w, i32_w]
                            rfl
                          refine pure_ (i := 4) (N := some 104) (v := ?_) (a' := ?_) #[true, true, false, false, true, false, false, false, false, false] rfl rfl (any_of HT_.out (by kernel_rfl)) (fun _ _ _ h => h) (Or.inl ⟨by rfl, ?_⟩) ?_ ?_
                          rotate_left
                          · intro w'
                            go_simp
                            with_reducible rfl
                          rotate_left
                          · simp only [Act.put, List.setIfInBounds_toArray, List.set_cons_zero, List.set_cons_succ, i64_w, i32_w]
                            rfl
                          refine pure_ (i := 5) (N := some 105) (v := ?_) (a' := ?_) #[true, true, false, false, true, true, false, false, false, false] rfl rfl (any_of HT_.out (by kernel_rfl)) (fun _ _ _ h => h) (Or.inl ⟨by rfl, ?_⟩) ?_ ?_
                          rotate_left
                          · intro w'
                            go_simp
                            with_reducible rfl
                          rotate_left
                          · simp only [Act.put, List.setIfInBounds_toArray, List.set_cons_zero, List.set_cons_succ, i64_w, i32_w]
                            rfl
                          refine pure_ (i := 6) (N := some 106) (v := ?_) (a' := ?_) #[true, true, false, false, true, true, true, false, false, false] rfl rfl (any_of HT_.out (by kernel_rfl)) (fun _ _ _ h => h) (Or.inl ⟨by rfl, ?_⟩) ?_ ?_
                          rotate_left
                          · intro w'
                            go_simp
                            with_reducible rfl
                          rotate_left
                          · simp only [Act.put, List.setIfInBounds_toArray, List.set_cons_zero, List.set_cons_succ, i64_w, i32_w]
                            rfl
                          refine pure_ (i := 7) (N := some 107) (v := ?_) (a' := ?_) #[true, true, false, false, true, true, true, true, false, false] rfl rfl (any_of HT_.out (by kernel_rfl)) (fun _ _ _ h => h) (Or.inl ⟨by rfl, ?_⟩) ?_ ?_
                          rotate_left
                          · intro w'
                            go_simp
                            with_reducible rfl
                          rotate_left
                          · simp only [Act.put, List.setIfInBounds_toArray, List.set_cons_zero, List.set_cons_succ, i64_w, i32_w]
                            rfl
                          refine one_ (i := 2) (N := some 102) #[true, true, true, false, true, true, true, true, false, false] rfl rfl (one_of HT_.out (by kernel_rfl)) (by decide) (fun K hK => ?_)
                          refine value_ (w1 := w6.alloc (.cells #[.int .i64 (v : Int)] 3)) (v := .slice (some ⟨w6.heap.size, 0, none⟩) 1 1) (by rfl) rfl (by first | (go_simp; done) | (go_simp; rfl)) ?_
                          refine hK.out _ _ trivial (fun hHeld => ?_)
                          clear hK K
                          refine one_ (i := 3) (N := some 103) #[true, true, true, true, true, true, true, true, false, false] rfl rfl (one_of HT_.out (by kernel_rfl)) (by decide) (fun K hK => ?_)
                          refine Kd.R_append_step (Kd.int .i64) (w0 := wd) wd.heap.size rfl (.tmp 100) (.tmp 102) 25 3 (.int .i64 0) 8 rfl Try.underlying25 info3 rfl (by decide) (by omega) (.slice Ao order.length co) order (v : Int) [.int .i64 (v : Int)] (fun _ => True) (fun _ => False) rfl rfl ?aP (fun _ hk => hk.elim) ?aF ?aO ?aB ?aS ?aL ?_
                          case aP => exact rfl
                          case aF => exact (fun _ _ => trivial)
                          case aO => exact HR6.out
                          case aB => exact HB6.out
                          case aS => exact HB6.out.size
                          case aL => omega
                          intro v1 w7 ho hb hg hat
                          refine hK.out _ _ trivial (fun hHeld => ?_)
                          clear hK K
                          have HR7 := Aside0.mk ho
                          have HB7 := Aside0.mk hb
                          clear ho hb hg hat
                          refine norm_ (a' := ?_) ?_ ?_
                          rotate_left
                          · show Act.put _ (some 103) v1 = _
                            simp only [Act.put, List.setIfInBounds_toArray, List.set_cons_zero, List.set_cons_succ]
                            rfl
                          refine pure_ (i := 8) (N := some 11) (v := ?_) (a' := ?_) #[true, true, true, true, true, true, true, true, true, false] rfl rfl (any_of HT_.out (by kernel_rfl)) (fun _ _ _ h => h) (Or.inl ⟨by rfl, ?_⟩) ?_ ?_
                          rotate_left
                          · intro w'
                            go_simp
                            with_reducible rfl
                          rotate_left
                          · simp only [Act.put, List.setIfInBounds_toArray, List.set_cons_zero, List.set_cons_succ, i64_w, i32_w]
                            rfl
                          refine pure_ (i := 9) (N := some 12) (v := ?_) (a' := ?_) #[true, true, true, true, true, true, true, true, true, true] rfl rfl (any_of HT_.out (by kernel_rfl)) (fun _ _ _ h => h) (Or.inl ⟨by rfl, ?_⟩) ?_ ?_
                          rotate_left
                          · intro w'
                            go_simp
                            with_reducible rfl
                          rotate_left
                          · simp only [Act.put, List.setIfInBounds_toArray, List.set_cons_zero, List.set_cons_succ, i64_w, i32_w]
                            rfl
                          refine done_ (done_of HT_.out (by kernel_rfl)) ?_
                          go_wp2
                          go_roundg gk
                          case measure => omega
                          case rel => exact ⟨sb out v, _, by simp; omega, rfl, hsM, HS3, HR7, HB7⟩
                    · have : N - v = 0 := by omega
                      have h := hf.out
                      rw [this] at h
                      exact absurd h (by simp)
        | succ m =>
          have e : ((m + 1 : Nat) : Int) - 1 = (m : Int) := by omega
          rw [e]
          clear e
          have hmM : m < M := by omega
          obtain ⟨hcm, hfm⟩ := HI.cell m hmM
          have HIs := HI.set m (N : Int)
          have hE1 : Aside0 (nO G N m (nI G N m 0 (need.set m (N : Int))) = needF G N) := HE
          clear HI HE
          go_wp2
          go_loopw [37] (fun s37 wr => ∃ v : Nat, ∃ need : List Int, v ≤ N ∧ s37 = .int .i64 (v : Int) ∧ Aside0 (nO G N m (nI G N m v need) = needF G N) ∧ BestI w wr w2.heap.size w3.heap.size M G need) (fun s37 _ => (N - (intOf s37).toNat))
          case atStart => exact ⟨0, _, by omega, rfl, hE1, HIs⟩
          case round =>
            clear HIs hE1 hcm hfm
            obtain ⟨v, need, hv, rfl, HE, HI⟩ := hrel
            by_cases hlt : v < N
            · have hstep := Aside0.mk (nI_step G N m v need hlt)
              have hpv := wrap_pow (show v < 16 by omega)
              have hwr : IntKind.u32.wrap (m : Int) = (m : Int) := by rw [IntKind.wrap_u32]; omega
              have hor := or_pows m v (by omega) (by omega)
              have hsM : sb m v < M := by rw [← HM.out] at hmM ⊢; exact Nat.or_lt_two_pow (n := N) hmM (pow_lt hlt)
              cases htb : m.testBit v with
              | true =>
                have hE1 : Aside0 (nO G N m (nI G N m (v + 1) need) = needF G N) := ⟨by
                  rw [← HE.out, hstep.out]
                  unfold nS
                  rw [htb, if_pos rfl]⟩
                clear hstep HE
                go_wp2
                go_roundw
                case rel => exact ⟨v + 1, need, by omega, by go_num, hE1, HI⟩
                case measure => simp [intOf]; omega
              | false =>
                obtain ⟨F, hF⟩ := HBH.out G HG.out v m (by omega) (by omega)
                have HF := Aside0.mk hF
                clear hF
                have HI4 := HI.grow (below_drew (Below.refl _ wr))
                go_wp2
                refine start_ (n := 22) (S := fun w' => Arr w' w2.heap.size G ∧ w'.cell? ⟨w3.heap.size, m, none⟩ = some (.int .i64 (need.getD m 0)) ∧ w'.cell? ⟨w3.heap.size, sb m v, none⟩ = some (.int .i64 (need.getD (sb m v) 0))) (ds := [21]) #[false, false, false, false, false, false, false, false, false, false, false, false, false, false, false, false, false, false, false, false, false, false] (by kernel_rfl) rfl rfl ⟨HI4.arr, (HI4.cell m hmM).1, (HI4.cell (sb m v) hsM).1⟩ (fun hHeld => ?_)
                refine with_tabW r15.tab15 r15.bits15 (fun HT_ HW_ => ?_)
                generalize wr.drew = w4 at HI4 hHeld ⊢
                refine pure_ (i := 0) (N := some 45) (v := ?_) (a' := ?_) #[true, false, false, false, false, false, false, false, false, false, false, false, false, false, false, false, false, false, false, false, false, false] rfl rfl (any_of HT_.out (by kernel_rfl)) (fun _ _ _ h => h) (Or.inl ⟨by rfl, ?_⟩) ?_ ?_
                rotate_left
                · intro w'
                  go_simp
                  with_reducible rfl
                rotate_left
                · simp only [Act.put, List.setIfInBounds_toArray, List.set_cons_zero, List.set_cons_succ, i64_w, i32_w, hwr]
                  rfl
                refine pure_ (i := 1) (N := some 46) (v := ?_) (a' := ?_) #[true, true, false, false, false, false, false, false, false, false, false, false, false, false, false, false, false, false, false, false, false, false] rfl rfl (any_of HT_.out (by kernel_rfl)) (fun _ _ _ h => h) (Or.inl ⟨by rfl, ?_⟩) ?_ ?_
                rotate_left
                · intro w'
                  go_simp
                  with_reducible rfl
                rotate_left
                · simp only [Act.put, List.setIfInBounds_toArray, List.set_cons_zero, List.set_cons_succ, i64_w, i32_w, hwr]
                  rfl
                refine pure_ (i := 2) (N := some 47) (v := ?_) (a' := ?_) #[true, true, true, false, false, false, false, false, false, false, false, false, false, false, false, false, false, false, false, false, false, false] rfl rfl (any_of HT_.out (by kernel_rfl)) (fun _ _ _ h => h) (Or.inl ⟨by rfl, ?_⟩) ?_ ?_
                rotate_left
                · intro w'
                  go_simp
                  with_reducible rfl
                rotate_left
                · simp only [Act.put, List.setIfInBounds_toArray, List.set_cons_zero, List.set_cons_succ, i64_w, i32_w, hwr]
                  rfl
                refine pure_ (i := 3) (N := some 48) (v := ?_) (a' := ?_) #[true, true, true, true, false, false, false, false, false, false, false, false, false, false, false, false, false, false, false, false, false, false] rfl rfl (any_of HT_.out (by kernel_rfl)) (fun _ _ _ h => h) (Or.inl ⟨by rfl, ?_⟩) ?_ ?_
                rotate_left
                · intro w'
                  go_simp
                  with_reducible rfl
                rotate_left
                · simp only [Act.put, List.setIfInBounds_toArray, List.set_cons_zero, List.set_cons_succ, i64_w, i32_w, hwr]
                  rfl
                refine pure_ (i := 4) (N := some 49) (v := ?_) (a' := ?_) #[true, true, true, true, true, false, false, false, false, false, false, false, false, false, false, false, false, false, false, false, false, false] rfl rfl (any_of HT_.out (by kernel_rfl)) (fun _ _ _ h => h) (Or.inl ⟨by rfl, ?_⟩) ?_ ?_
                rotate_left
                · intro w'
                  go_simp
                  with_reducible rfl
                rotate_left
                · simp only [Act.put, List.setIfInBounds_toArray, List.set_cons_zero, List.set_cons_succ, i64_w, i32_w, hwr]
                  rfl
                refine pure_ (i := 7) (N := some 52) (v := ?_) (a' := ?_) #[true, true, true, true, true, false, false, true, false, false, false, false, false, false, false, false, false, false, false, false, false, false] rfl rfl (any_of HT_.out (by kernel_rfl)) (fun _ _ _ h => h) (Or.inl ⟨by rfl, ?_⟩) ?_ ?_
                rotate_left
                · intro w'
                  go_simp
                  with_reducible rfl
                rotate_left
                · simp only [Act.put, List.setIfInBounds_toArray, List.set_cons_zero, List.set_cons_succ, i64_w, i32_w, hwr]
                  rfl
                refine pure_ (i := 8) (N := some 53) (v := ?_) (a' := ?_) #[true, true, true, true, true, false, false, true, true, false, false, false, false, false, false, false, false, false, false, false, false, false] rfl rfl (any_of HT_.out (by kernel_rfl)) (fun _ _ _ h => h) (Or.inl ⟨by rfl, ?_⟩) ?_ ?_
                rotate_left
                · intro w'
                  go_simp
                  with_reducible rfl
                rotate_left
                · simp only [Act.put, List.setIfInBounds_toArray, List.set_cons_zero, List.set_cons_succ, i64_w, i32_w, hwr]
                  rfl
                refine pure_ (i := 9) (N := some 54) (v := ?_) (a' := ?_) #[true, true, true, true, true, false, false, true, true, true, false, false, false, false, false, false, false, false, false, false, false, false] rfl rfl (any_of HT_.out (by kernel_rfl)) (fun _ _ _ h => h) (Or.inl ⟨by rfl, ?_⟩) ?_ ?_
                rotate_left
                · intro w'
                  go_simp
                  with_reducible rfl
                rotate_left
                · simp only [Act.put, List.setIfInBounds_toArray, List.set_cons_zero, List.set_cons_succ, i64_w, i32_w, hwr]
                  rfl
                refine pure_ (i := 11) (N := some 56) (v := ?_) (a' := ?_) #[true, true, true, true, true, false, false, true, true, true, false, true, false, false, false, false, false, false, false, false, false, false] rfl rfl (any_of HT_.out (by kernel_rfl)) (fun _ _ _ h => h) (Or.inl ⟨by rfl, ?_⟩) ?_ ?_
                rotate_left
                · intro w'
                  go_simp
                  with_reducible rfl
                rotate_left
                · simp only [Act.put, List.setIfInBounds_toArray, List.set_cons_zero, List.set_cons_succ, i64_w, i32_w, hwr]
                  rfl
                refine pure_ (i := 12) (N := some 57) (v := ?_) (a' := ?_) #[true, true, true, true, true, false, false, true, true, true, false, true, true, false, false, false, false, false, false, false, false, false] rfl rfl (any_of HT_.out (by kernel_rfl)) (fun _ _ _ h => h) (Or.inl ⟨by rfl, ?_⟩) ?_ ?_
                rotate_left
                · intro w'
                  go_simp
                  with_reducible rfl
                rotate_left
                · simp only [Act.put, List.setIfInBounds_toArray, List.set_cons_zero, List.set_cons_succ, i64_w, i32_w, hwr]
                  rfl
                refine pure_ (i := 13) (N := some 58) (v := ?_) (a' := ?_) #[true, true, true, true, true, false, false, true, true, true, false, true, true, true, false, false, false, false, false, false, false, false] rfl rfl (any_of HT_.out (by kernel_rfl)) (fun _ _ _ h => h) (Or.inl ⟨by rfl, ?_⟩) ?_ ?_
                rotate_left
                · intro w'
                  go_simp
                  with_reducible rfl
                rotate_left
                · simp only [Act.put, List.setIfInBounds_toArray, List.set_cons_zero, List.set_cons_succ, i64_w, i32_w, hwr]
                  rfl
                refine pure_ (i := 14) (N := some 59) (v := ?_) (a' := ?_) #[true, true, true, true, true, false, false, true, true, true, false, true, true, true, true, false, false, false, false, false, false, false] rfl rfl (any_of HT_.out (by kernel_rfl)) (fun _ _ _ h => h) (Or.inl ⟨by rfl, ?_⟩) ?_ ?_
                rotate_left
                · intro w'
                  go_simp
                  with_reducible rfl
                rotate_left
                · simp only [Act.put, List.setIfInBounds_toArray, List.set_cons_zero, List.set_cons_succ, i64_w, i32_w, hwr]
                  rfl
                refine pure_ (i := 15) (N := some 60) (v := ?_) (a' := ?_) #[true, true, true, true, true, false, false, true, true, true, false, true, true, true, true, true, false, false, false, false, false, false] rfl rfl (any_of HT_.out (by kernel_rfl)) (fun _ _ _ h => h) (Or.inl ⟨by rfl, ?_⟩) ?_ ?_
                rotate_left
                · intro w'
                  go_simp
                  with_reducible rfl
                rotate_left
                · simp only [Act.put, List.setIfInBounds_toArray, List.set_cons_zero, List.set_cons_succ, i64_w, i32_w, hwr]
                  rfl
                refine pure_ (i := 16) (N := some 61) (v := ?_) (a' := ?_) #[true, true, true, true, true, false, false, true, true, true, false, true, true, true, true, true, true, false, false, false, false, false] rfl rfl (any_of HT_.out (by kernel_rfl)) (fun _ _ _ h => h) (Or.inl ⟨by rfl, ?_⟩) ?_ ?_
                rotate_left
                · intro w'
                  go_simp
                  with_reducible rfl
                rotate_left
                · simp only [Act.put, List.setIfInBounds_toArray, List.set_cons_zero, List.set_cons_succ, i64_w, i32_w, hwr]
                  rfl
                refine take_ (i := 5) (N := some 50) (v := ?_) (a' := ?_) #[true, true, true, true, true, true, false, true, true, true, false, true, true, true, true, true, true, false, false, false, false, false] rfl rfl (take_ofW HT_.out HW_.out (by kernel_rfl)) (fun _ _ _ h => h) (Or.inl ⟨by rfl, ?_⟩) hHeld ?_ ?_
                rotate_left
                · rintro w' ⟨_, s1, s2⟩
                  go_simp
                  with_reducible rfl
                rotate_left
                · simp only [Act.put, List.setIfInBounds_toArray, List.set_cons_zero, List.set_cons_succ, i64_w, i32_w, hwr]
                  rfl
                refine take_ (i := 6) (N := some 51) (v := ?_) (a' := ?_) #[true, true, true, true, true, true, true, true, true, true, false, true, true, true, true, true, true, false, false, false, false, false] rfl rfl (take_ofW HT_.out HW_.out (by kernel_rfl)) (fun _ _ _ h => h) (Or.inl ⟨by rfl, ?_⟩) hHeld ?_ ?_
                rotate_left
                · rintro w' ⟨sA, _, _⟩
                  refine run_load_arr (x := .tmp 7) ?_ ?_ sA <;> rfl
                rotate_left
                · simp only [Act.put, List.setIfInBounds_toArray, List.set_cons_zero, List.set_cons_succ, i64_w, i32_w, hwr]
                  rfl
                refine take_ (i := 17) (N := some 62) (v := ?_) (a' := ?_) #[true, true, true, true, true, true, true, true, true, true, false, true, true, true, true, true, true, true, false, false, false, false] rfl rfl (take_ofW HT_.out HW_.out (by kernel_rfl)) (fun _ _ _ h => h) (Or.inl ⟨by rfl, ?_⟩) hHeld ?_ ?_
                rotate_left
                · rintro w' ⟨_, s1, s2⟩
                  go_simp
                  with_reducible rfl
                rotate_left
                · simp only [Act.put, List.setIfInBounds_toArray, List.set_cons_zero, List.set_cons_succ, i64_w, i32_w, hwr]
                  rfl
                refine one_ (i := 10) (N := some 55) #[true, true, true, true, true, true, true, true, true, true, true, true, true, true, true, true, true, true, false, false, false, false] rfl rfl (one_of HT_.out (by kernel_rfl)) (by decide) (fun K hK => ?_)

                refine goes_ Try.func40 (by kernel_rfl) rfl #[.agg (gcells G), .int .i64 (v : Int), .int .u32 (m : Int)] (by rfl) rfl rfl (by simp only [List.map_toArray, List.map_cons, List.map_nil]; rfl) ?_
                refine (behind_calls G v m F _ (by omega) HG.out (by omega) HF.out).mono ?_
                rintro e w5 ⟨rfl, hb5⟩
                refine ⟨_, rfl, ?_⟩
                have HI5 := HI4.grow hb5
                clear HI4 hb5
                refine hK.out _ _ ⟨HI5.arr, (HI5.cell m hmM).1, (HI5.cell (sb m v) hsM).1⟩ (fun hHeld => ?_)
                clear hK K
                refine pure_ (i := 18) (N := some 63) (v := ?_) (a' := ?_) #[true, true, true, true, true, true, true, true, true, true, true, true, true, true, true, true, true, true, true, false, false, false] rfl rfl (any_of HT_.out (by kernel_rfl)) (fun _ _ _ h => h) (Or.inl ⟨by rfl, ?_⟩) ?_ ?_
                rotate_left
                · intro w'
                  go_simp
                  with_reducible rfl
                rotate_left
                · simp only [Act.put, List.setIfInBounds_toArray, List.set_cons_zero, List.set_cons_succ, i64_w, i32_w, hwr]
                  rfl
                refine pure_ (i := 19) (N := some 64) (v := ?_) (a' := ?_) #[true, true, true, true, true, true, true, true, true, true, true, true, true, true, true, true, true, true, true, true, false, false] rfl rfl (any_of HT_.out (by kernel_rfl)) (fun _ _ _ h => h) (Or.inl ⟨by rfl, ?_⟩) ?_ ?_
                rotate_left
                · intro w'
                  go_simp
                  with_reducible rfl
                rotate_left
                · simp only [Act.put, List.setIfInBounds_toArray, List.set_cons_zero, List.set_cons_succ, i64_w, i32_w, hwr]
                  rfl
                refine pure_ (i := 20) (N := some 65) (v := ?_) (a' := ?_) #[true, true, true, true, true, true, true, true, true, true, true, true, true, true, true, true, true, true, true, true, true, false] rfl rfl (any_of HT_.out (by kernel_rfl)) (fun _ _ _ h => h) (Or.inl ⟨by rfl, ?_⟩) ?_ ?_
                rotate_left
                · intro w'
                  go_simp
                  with_reducible rfl
                rotate_left
                · simp only [Act.put, List.setIfInBounds_toArray, List.set_cons_zero, List.set_cons_succ, i64_w, i32_w, hwr]
                  rfl
                refine last_ (i := 21) (N := none) #[true, true, true, true, true, true, true, true, true, true, true, true, true, true, true, true, true, true, true, true, true, true] rfl rfl (one_of HT_.out (by kernel_rfl)) (by decide) (fun K hK => ?_)
                obtain ⟨hcm, hfm⟩ := HI5.cell m hmM
                refine skip_ (w1 := ?_) (by rfl) rfl ?_ ?_
                rotate_left
                · go_simp
                  rfl
                refine hK.out _ _ ?_
                clear hK K
                refine done_ (done_of HT_.out (by kernel_rfl)) ?_
                have hE1 : Aside0 (nO G N m (nI G N m (v + 1) (need.set m (mn (need.getD m 0) (mx (bhN G v m : Int) (need.getD (sb m v) 0))))) = needF G N) := ⟨by
                  rw [← HE.out, hstep.out]
                  conv => rhs; unfold nS
                  rw [htb]
                  rfl⟩
                have hbn : bhN G v m = popc (an (an F m) (2 ^ v)) := by
                  unfold bhN
                  rw [HF.out]
                  rfl
                rw [hbn] at hE1
                have HIn := HI5.set m (mn (need.getD m 0) (mx ((popc (an (an F m) (2 ^ v)) : Nat) : Int) (need.getD (sb m v) 0)))
                clear hstep HE hbn
                try go_wp2
                go_roundw
                case rel => exact ⟨v + 1, _, by omega, by go_num, hE1, HIn⟩
                case measure => simp [intOf]; omega
            · obtain rfl : v = N := by omega
              go_wp2
              go_roundw
              case rel => exact ⟨m, need, by omega, rfl, ⟨by rw [← HE.out, nI_end]⟩, HI⟩
              case measure => simp [intOf]
    · obtain ⟨N, rfl⟩ := Int.eq_ofNat_of_zero_le hT.1
      simp only [if_true] at h
      rw [if_neg h10] at h
      simp only [Option.some.injEq, Prod.mk.injEq] at h
      obtain ⟨rfl, rfl, rfl⟩ := h
      have HC := Aside0.mk (right_calls (N : Int) A c l w hr hc)
      rw [hR] at HC
      have hd10 : decide (10 < (N : Int)) = true := decide_eq_true (by omega)
      clear hr hR hT
      go_enter Try.func15, Try.ntmps15
      go_wp2_with fail
      refine HC.out.mono ?_
      rintro e w1 ⟨rfl, hb⟩
      have HB := Aside0.mk hb
      clear hb
      go_wp2
      go_ret3
      exact ⟨_, rfl, Kd.R_nil _ _ _ _ _, HB.out⟩
end Go.Proofs.Ytnnaakinchophaa.Ord
