/- The program's greedy, MinDegree and MinFill, walked; conditions as written. -/
import Derived.Test.YtnnaakinchophaaOrdY
namespace Go.Proofs.Ytnnaakinchophaa.Ord
set_option linter.unusedVariables false
set_option linter.unusedSimpArgs false
open Go.RowKit Go.Proofs.YtnnaakinchophaaW.PrintWords Go.Proofs.YtnnaakinchophaaW.PrintLast Go.Proofs.YtnnaakinchophaaW.PrintMore
def grS (cf : (Nat → Nat) → Nat → Int) (H : Nat → Nat) (out : List Int) (s : Int × Int) (v : Nat) : Int × Int :=
  if out.any (fun y => (v : Int) == y) then s else if s.1 < 0 ∨ cf H v < s.2 then ((v : Int), cf H v) else s
def grI (cf : (Nat → Nat) → Nat → Int) (n : Nat) (H : Nat → Nat) (out : List Int) (v : Nat) (s : Int × Int) : Int × Int := (List.range' v (n - v)).foldl (grS cf H out) s
def grL (cf : (Nat → Nat) → Nat → Int) (n : Nat) : Nat → (Nat → Nat) → List Int → List Int
  | 0, _, out => out
  | m + 1, H, out => grL cf n m (elimF H (grI cf n H out 0 (-1, 0)).1.toNat) (out ++ [(grI cf n H out 0 (-1, 0)).1])
/-- What greedy says. -/
def greedyF (cf : (Nat → Nat) → Nat → Int) (n : Int) (l : List (List Int)) : List Int × Int := if rightF n l then (grL cf n.toNat n.toNat (ofG l) [], 0) else ([], 1)
theorem grI_end (cf : (Nat → Nat) → Nat → Int) (n : Nat) (H : Nat → Nat) (out : List Int) (s : Int × Int) : grI cf n H out n s = s := by simp [grI]
theorem grI_step (cf : (Nat → Nat) → Nat → Int) (n : Nat) (H : Nat → Nat) (out : List Int) (v : Nat) (s : Int × Int) (h : v < n) : grI cf n H out v s = grI cf n H out (v + 1) (grS cf H out s v) := by
  unfold grI
  rw [show n - v = (n - (v + 1)) + 1 by omega, List.range'_succ, List.foldl_cons]
structure GrI (w wr : World) (g : Nat) (H : Nat → Nat) (s : Value) (out : List Int) : Prop where
  arr : Arr wr g H
  row : Kd.R (Kd.int .i64) 3 wr w.heap.size (fun _ => True) s out
  bel : Below w.heap.size w wr
  base : w.heap.size ≤ g
  lt : ∀ i, H i < 65536
theorem GrI.below {w wr w1 : World} {g : Nat} {H : Nat → Nat} {s : Value} {out : List Int} (h : GrI w wr g H s out) (hb : Below wr.heap.size wr w1) : GrI w w1 g H s out :=
  ⟨h.arr.below hb, Kd.R_below h.row hb, below_step h.bel hb, h.base, h.lt⟩
theorem int_types53 : ∀ q, q ∈ 3 :: (Kd.int .i64).E → q ≠ 53 := by
  intro q hq
  have : q = 3 := by simpa [Kd.int, Kd.scalar] using hq
  omega
theorem GrI.elim_ {w wr w6 : World} {g v : Nat} {H : Nat → Nat} {s : Value} {out : List Int} (h : GrI w wr g H s out) (hA : Arr w6 g (elimF H v)) (hG : wr.grownBy w6 (some g)) : GrI w w6 g (elimF H v) s out :=
  ⟨hA, Kd.R_mono (Kd.R_grown (Kd.R_types h.row h.arr.out int_types53) hG (fun q hq he => hq.2 (Option.some.inj he))) (fun _ _ => trivial), h.bel.grown hG h.bel.size (fun k hk => by cases hk; exact h.base), h.base, elimF_lt h.lt v⟩
theorem GrI.push {w W w1 : World} {g : Nat} {H : Nat → Nat} {s v1 : Value} {out out2 : List Int} (h : GrI w W g H s out) (ho : Kd.R (Kd.int .i64) 3 w1 w.heap.size (fun _ => True) v1 out2) (hb : Below w.heap.size w w1) (hg : W.grownBy w1 s.ownBlock) : GrI w w1 g H v1 out2 :=
  ⟨⟨(hg.block _ (blk_lt h.arr.out) (Kd.R_ne h.row h.arr.out (by decide))).trans h.arr.out⟩, ho, hb, h.base, h.lt⟩
set_option maxHeartbeats 4000000 in
set_option maxRecDepth 100000 in
theorem greedy_calls (cf : (Nat → Nat) → Nat → Int) (fn : Nat) (eg : ∀ args w, (callFunc fn args).run Try.prog w = .ok (.enter fn args) w)
    (hcf : ∀ (g v : Nat) (H : Nat → Nat) (w : World), Arr w g H → v < 16 → (∀ i, H i < 65536) → Calls Try.prog fn #[.pointer (some ⟨g, 0, none⟩), .int .i64 (v : Int)] w fun e w' => e = .returned (.int .i64 (cf H v)) ∧ Below w.heap.size w w')
    (n : Int) (A : Option Addr) (c : Nat) (l : List (List Int)) (w : World) (hr : Kd.C kl w A l.length l) (hc : l.length ≤ c) :
    Calls Try.prog 54 #[.int .i64 n, .slice A l.length c, .func (.func fn) #[] #[]] w fun e w' => ∃ v0, e = .returned (.tuple #[v0, .int .i64 (greedyF cf n l).2]) ∧ Kd.R (Kd.int .i64) 3 w' w.heap.size (fun _ => True) v0 (greedyF cf n l).1 ∧ Below w.heap.size w w' := by
  have HC := Aside0.mk (right_calls n A c l w hr hc)
  have HCF := Aside0.mk hcf
  clear hcf
  cases hR : rightF n l with
  | false =>
    have hE : greedyF cf n l = ([], 1) := by unfold greedyF; rw [hR]; rfl
    rw [hR] at HC
    rw [hE]
    clear hr hR hE
    go_enter Try.func54, Try.ntmps54
    go_wp2_with fail
    refine HC.out.mono ?_
    rintro e w1 ⟨rfl, hb⟩
    have HB := Aside0.mk hb
    clear hb
    go_wp2
    go_ret2
    exact ⟨_, rfl, Kd.R_nil _ _ _ _ _, HB.out⟩
  | true =>
    have hT := rightF_true hR
    obtain ⟨N, rfl⟩ := Int.eq_ofNat_of_zero_le hT.1
    have hN : N ≤ 16 := by omega
    have hv : ∀ x ∈ l, ∀ v ∈ x, 0 ≤ v ∧ v < 16 := fun x hx v hv => by
      have := (hT.2.2.2 x hx).2 v hv
      omega
    rw [hR] at HC
    have HV := Aside0.mk hv
    have HR := Aside0.mk hr
    have hE : greedyF cf N l = (grL cf N N (ofG l) [], 0) := by unfold greedyF; rw [hR]; rfl
    rw [hE]
    clear hr hR hv hT hE
    go_enter Try.func54, Try.ntmps54
    go_wp2_with fail
    refine HC.out.mono ?_
    rintro e w1 ⟨rfl, hb⟩
    have HB := Aside0.mk hb
    have HR1 := Aside0.mk (Kd.C_below HR.out hb)
    clear hb HR HC
    go_wp2_with fail
    refine (of_calls A c l w1 HR1.out hc HV.out).mono ?_
    rintro e w3 ⟨rfl, hb⟩
    have HB2 := Aside0.mk (below_step HB.out hb)
    clear hb HB HR1
    have hlt := ofG_lt l HV.out
    generalize hG : ofG l = G at *
    have HGe := Aside0.mk hG
    clear hG
    have hA2 : Arr (w3.alloc (.cells (gcells fun _ => 0) 53)) w3.heap.size (fun _ => 0) := ⟨blk_new w3 _⟩
    go_wp2_with ((with_reducible refine gate_store (t := 53) (p := 8) (v := .tmp 19) rfl ?_); refine store_arr rfl (.tmp 8) (.tmp 19) rfl rfl w3.heap.size G (fun _ => 0) rfl rfl hA2 ?_; intro w4 hA3 hG3)
    have hb3 : Below w.heap.size w w4 := ((HB2.out.alloc HB2.out.size _)).grown hG3 (Nat.le_trans HB2.out.size (by simp)) (fun k hk => by cases hk; exact HB2.out.size)
    have HI0 : GrI w (w4.alloc (.cells #[] 3)) w3.heap.size G (.slice (some ⟨w4.heap.size, 0, none⟩) 0 0) [] := ⟨hA3.alloc _, Kd.R_of_own (by
      have h := own_lit w4 w.heap.size 3 .i64 [] hb3.size (by decide)
      exact h) (fun _ _ => trivial), hb3.alloc hb3.size _, HB2.out.size, hlt⟩
    clear hA2 hA3 hG3 hb3 hlt
    go_loopw [9, 22] (fun s9 s22 wr => ∃ k : Nat, ∃ H : Nat → Nat, ∃ out : List Int, k ≤ N ∧ s22 = .int .i64 (k : Int) ∧ Aside0 (grL cf N (N - k) H out = grL cf N N G []) ∧ Aside0 (OdP N out ∧ out.length = k) ∧ GrI w wr w3.heap.size H s9 out) (fun _ s22 _ => (N - (intOf s22).toNat))
    case atStart => exact ⟨0, G, [], by omega, rfl, ⟨rfl⟩, ⟨⟨List.nodup_nil, fun x hx => absurd hx List.not_mem_nil, Nat.zero_le _⟩, rfl⟩, HI0⟩
    case round =>
      clear HI0
      obtain ⟨k, H, out, hk, rfl, HE, HP, HI⟩ := hrel
      by_cases hlt : k < N
      · have hkd : decide (k < N) = true := decide_eq_true hlt
        have hst : Aside0 (grL cf N (N - (k + 1)) (elimF H (grI cf N H out 0 (-1, 0)).1.toNat) (out ++ [(grI cf N H out 0 (-1, 0)).1]) = grL cf N N G []) := ⟨by
          rw [← HE.out, show N - k = (N - (k + 1)) + 1 by omega]
          rfl⟩
        generalize hgr : grI cf N H out 0 (-1, 0) = fin at *
        have HGR := Aside0.mk hgr
        clear hgr HE
        obtain ⟨A9, c9, rfl, hc9, hC9⟩ := Kd.R_reads HI.row
        clear hC9
        go_wp2
        go_loopw [10, 11, 25] (fun s10 s11 s25 wr => ∃ v : Nat, ∃ best least : Int, v ≤ N ∧ s25 = .int .i64 (v : Int) ∧ s10 = .int .i64 best ∧ s11 = .int .i64 least ∧ Aside0 (grI cf N H out v (best, least) = fin) ∧ Aside0 ((best = -1 ∧ ∀ u : Nat, u < v → (u : Int) ∈ out) ∨ (0 ≤ best ∧ best < (N : Int) ∧ best ∉ out)) ∧ GrI w wr w3.heap.size H (.slice A9 out.length c9) out) (fun _ _ s25 _ => (N - (intOf s25).toNat))
        case atStart => exact ⟨0, -1, 0, by omega, rfl, rfl, rfl, HGR, ⟨Or.inl ⟨rfl, fun u hu => by omega⟩⟩, HI⟩
        case round =>
          clear HI
          obtain ⟨v, best, least, hv, rfl, rfl, rfl, HS, HB, HI⟩ := hrel
          by_cases hltv : v < N
          · have hvd : decide (v < N) = true := decide_eq_true hltv
            have hs := Aside0.mk (grI_step cf N H out v (best, least) hltv)
            obtain ⟨_, _, hC⟩ := Kd.R_reads' HI.row
            have HCo := Aside0.mk (contains_calls A9 c9 out (v : Int) wr hC)
            have hv16 : v < 16 := by omega
            clear hC
            cases hany : out.any (fun y => (v : Int) == y) with
            | true =>
              rw [hany] at HCo
              have hT : Aside0 (grI cf N H out (v + 1) (best, least) = fin) := ⟨by rw [← HS.out, hs.out]; unfold grS; rw [hany]; rfl⟩
              have HB2 : Aside0 ((best = -1 ∧ ∀ u : Nat, u < v + 1 → (u : Int) ∈ out) ∨ (0 ≤ best ∧ best < (N : Int) ∧ best ∉ out)) := ⟨by
                rcases HB.out with ⟨h1, h2⟩ | h1
                · refine Or.inl ⟨h1, fun u hu => ?_⟩
                  by_cases e : u = v
                  · subst e
                    rw [List.any_eq_true] at hany
                    obtain ⟨x, hx, hxe⟩ := hany
                    rw [beq_iff_eq] at hxe
                    rw [hxe]; exact hx
                  · exact h2 u (by omega)
                · exact Or.inr h1⟩
              clear hs HS HB hany
              go_wp2_with fail
              refine HCo.out.mono ?_
              rintro e w5 ⟨rfl, rfl⟩
              clear HCo
              go_wp2
              go_roundw
              case rel => exact ⟨v + 1, best, least, by omega, by go_num, rfl, rfl, hT, HB2, HI⟩
              case measure => simp [intOf]; omega
            | false =>
              rw [hany] at HCo
              have hnot : (v : Int) ∉ out := fun hm => by
                rw [List.any_eq_false] at hany
                exact hany _ hm (by simp)
              have HN := Aside0.mk hnot
              have hS2 : Aside0 (grI cf N H out (v + 1) (if best < 0 ∨ cf H v < least then ((v : Int), cf H v) else (best, least)) = fin) := ⟨by rw [← HS.out, hs.out]; unfold grS; rw [hany]; rfl⟩
              have HV1 := Aside0.mk (HCF.out w3.heap.size v H wr HI.arr hv16 HI.lt)
              generalize cf H v = cv at *
              clear hs HS hany hnot
              have HB3 : Aside0 (((v : Int) = -1 ∧ ∀ u : Nat, u < v + 1 → (u : Int) ∈ out) ∨ (0 ≤ (v : Int) ∧ (v : Int) < (N : Int) ∧ (v : Int) ∉ out)) := ⟨Or.inr ⟨by omega, by omega, HN.out⟩⟩
              by_cases hb0 : best < 0
              · have hb0d : decide (best < 0) = true := decide_eq_true hb0
                have hT : Aside0 (grI cf N H out (v + 1) ((v : Int), cv) = fin) := ⟨by have := hS2.out; rwa [if_pos (Or.inl hb0)] at this⟩
                clear hS2 HB
                go_wp2_with fail
                refine HCo.out.mono ?_
                rintro e w5 ⟨rfl, rfl⟩
                clear HCo
                go_wp2_with (go_at_fn fn; refine HV1.out.mono ?_; rintro e w6 ⟨rfl, hb6⟩; have HI6 := HI.below hb6; clear hb6 HI HV1)
                go_roundw
                case rel => exact ⟨v + 1, _, _, by omega, by go_num, rfl, rfl, hT, HB3, HI6⟩
                case measure => simp [intOf]; omega
              · have hb0d : decide (best < 0) = false := decide_eq_false hb0
                by_cases hcl : cv < least
                · have hcld : decide (cv < least) = true := decide_eq_true hcl
                  have hT : Aside0 (grI cf N H out (v + 1) ((v : Int), cv) = fin) := ⟨by have := hS2.out; rwa [if_pos (Or.inr hcl)] at this⟩
                  clear hS2 HB
                  go_wp2_with fail
                  refine HCo.out.mono ?_
                  rintro e w5 ⟨rfl, rfl⟩
                  clear HCo
                  go_wp2_with (go_at_fn fn; refine HV1.out.mono ?_; rintro e w6 ⟨rfl, hb6⟩; have HI6 := HI.below hb6; clear hb6 HI HV1)
                  go_roundw
                  case rel => exact ⟨v + 1, _, _, by omega, by go_num, rfl, rfl, hT, HB3, HI6⟩
                  case measure => simp [intOf]; omega
                · have hcld : decide (cv < least) = false := decide_eq_false hcl
                  have hT : Aside0 (grI cf N H out (v + 1) (best, least) = fin) := ⟨by have := hS2.out; rwa [if_neg (by omega)] at this⟩
                  have HB2 : Aside0 ((best = -1 ∧ ∀ u : Nat, u < v + 1 → (u : Int) ∈ out) ∨ (0 ≤ best ∧ best < (N : Int) ∧ best ∉ out)) := ⟨by
                    rcases HB.out with ⟨h1, h2⟩ | h1
                    · omega
                    · exact Or.inr h1⟩
                  clear hS2 HB HB3
                  go_wp2_with fail
                  refine HCo.out.mono ?_
                  rintro e w5 ⟨rfl, rfl⟩
                  clear HCo
                  go_wp2_with (go_at_fn fn; refine HV1.out.mono ?_; rintro e w6 ⟨rfl, hb6⟩; have HI6 := HI.below hb6; clear hb6 HI HV1)
                  go_roundw
                  case rel => exact ⟨v + 1, _, _, by omega, by go_num, rfl, rfl, hT, HB2, HI6⟩
                  case measure => simp [intOf]; omega
          · obtain rfl : v = N := by omega
            have hfin : fin = (best, least) := by rw [← HS.out, grI_end]
            have hB : 0 ≤ best ∧ best < (v : Int) ∧ best ∉ out := by
              rcases HB.out with ⟨h1, h2⟩ | h1
              · have := pigeon v out h2
                have := HP.out.2
                omega
              · exact h1
            have hst2 := hst.out
            rw [hfin] at hst2
            have HP2 : Aside0 (OdP v (out ++ [best]) ∧ (out ++ [best]).length = k + 1) := ⟨⟨⟨by
              rw [List.nodup_append]
              exact ⟨HP.out.1.nd, by simp, fun a ha b hb e => by
                rw [List.mem_singleton] at hb
                subst hb; subst e; exact hB.2.2 ha⟩, fun x hx => by
              rcases List.mem_append.1 hx with h | h
              · exact HP.out.1.rg x h
              · rw [List.mem_singleton] at h; subst h; exact ⟨hB.1, hB.2.1⟩, by rw [List.length_append]; have := HP.out.2; simp; omega⟩, by rw [List.length_append, HP.out.2]; rfl⟩⟩
            obtain ⟨bn, rfl⟩ := Int.eq_ofNat_of_zero_le hB.1
            have hbn : bn < 16 := by omega
            have hst3 : Aside0 (grL cf v (v - (k + 1)) (elimF H bn) (out ++ [(bn : Int)]) = grL cf v v G []) := ⟨hst2⟩
            have hol : out.length ≤ 16 := by have := HP.out.2; omega
            clear HS HB hst hst2 hfin hB HGR HP
            go_wp2_with (at_builtin; refine Kd.R_append (Kd.int .i64) (w0 := w) w.heap.size rfl (.tmp 44) (.tmp 46) 25 3 (.int .i64 0) 8 rfl Try.underlying25 info3 rfl (by decide) (by omega) _ out (bn : Int) [.int .i64 (bn : Int)] (fun _ => True) (fun _ => False) rfl rfl ?aP (fun _ hk => hk.elim) ?aF ?aO ?aB ?aS ?aL ?_; (case aP => exact rfl); (case aF => exact (fun _ _ => trivial)); (case aO => exact HI.row); (case aB => exact HI.bel); (case aS => exact HI.bel.size); (case aL => omega); intro v1 w7 ho hb1 hg1 hat1; have HI1 := HI.push ho hb1 hg1; clear ho hb1 hg1 hat1 HI)
            refine (eliminate_calls w3.heap.size bn H w7 HI1.arr hbn HI1.lt).mono ?_
            rintro e w8 ⟨v8, rfl, -, hA8, hG8⟩
            have HI8 := HI1.elim_ hA8 hG8
            clear HI1 hA8 hG8
            go_wp2
            go_roundw
            case rel => exact ⟨k + 1, _, _, by omega, by go_num, hst3, HP2, HI8⟩
            case measure => simp [intOf]; omega
      · obtain rfl : k = N := by omega
        have hend : Aside0 (out = grL cf k k G []) := ⟨by rw [← HE.out, Nat.sub_self]; rfl⟩
        go_wp2
        go_ret2
        exact ⟨_, rfl, by rw [HGe.out, ← hend.out]; exact HI.row, HI.bel⟩
theorem eg55 : ∀ args w, (callFunc 55 args).run Try.prog w = .ok (.enter 55 args) w := enters_of Try.func55 (by kernel_rfl) rfl
theorem eg57 : ∀ args w, (callFunc 57 args).run Try.prog w = .ok (.enter 57 args) w := enters_of Try.func57 (by kernel_rfl) rfl
set_option maxHeartbeats 400000 in
theorem minDegree_calls (n : Int) (A : Option Addr) (c : Nat) (l : List (List Int)) (w : World) (hr : Kd.C kl w A l.length l) (hc : l.length ≤ c) :
    Calls Try.prog 30 #[.int .i64 n, .slice A l.length c] w fun e w' => ∃ v0, e = .returned (.tuple #[v0, .int .i64 (greedyF cfD n l).2]) ∧ Kd.R (Kd.int .i64) 3 w' w.heap.size (fun _ => True) v0 (greedyF cfD n l).1 ∧ Below w.heap.size w w' := by
  have H1 := Aside0.mk (greedy_calls cfD 55 eg55 degree_calls' n A c l w hr hc)
  generalize greedyF cfD n l = P at *
  obtain ⟨P1, P2⟩ := P
  clear hr hc
  go_enter Try.func30, Try.ntmps30
  go_wp2_with fail
  refine H1.out.mono ?_
  rintro e w1 ⟨v0, rfl, hR, hB⟩
  have HB := Aside0.mk (And.intro hR hB)
  clear hR hB H1
  go_wp2
  go_ret2
  exact ⟨_, rfl, HB.out.1, HB.out.2⟩
set_option maxHeartbeats 400000 in
theorem minFill_calls (n : Int) (A : Option Addr) (c : Nat) (l : List (List Int)) (w : World) (hr : Kd.C kl w A l.length l) (hc : l.length ≤ c) :
    Calls Try.prog 32 #[.int .i64 n, .slice A l.length c] w fun e w' => ∃ v0, e = .returned (.tuple #[v0, .int .i64 (greedyF cfF n l).2]) ∧ Kd.R (Kd.int .i64) 3 w' w.heap.size (fun _ => True) v0 (greedyF cfF n l).1 ∧ Below w.heap.size w w' := by
  have H1 := Aside0.mk (greedy_calls cfF 57 eg57 minFill1_calls n A c l w hr hc)
  generalize greedyF cfF n l = P at *
  obtain ⟨P1, P2⟩ := P
  clear hr hc
  go_enter Try.func32, Try.ntmps32
  go_wp2_with fail
  refine H1.out.mono ?_
  rintro e w1 ⟨v0, rfl, hR, hB⟩
  have HB := Aside0.mk (And.intro hR hB)
  clear hR hB H1
  go_wp2
  go_ret2
  exact ⟨_, rfl, HB.out.1, HB.out.2⟩
end Go.Proofs.Ytnnaakinchophaa.Ord
