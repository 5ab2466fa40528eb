/- The reference's of, walked; conditions as written. -/
import Derived.Test.YtnnaakinchophaaOrdK
import Derived.Deep.CutRange
import Derived.Deep.DeepCutAuto
namespace Go.Proofs.Ytnnaakinchophaa.Ord
set_option linter.unusedVariables false
set_option linter.unusedSimpArgs false
open Go.RowKit Go.Proofs.YtnnaakinchophaaW.PrintWords Go.Proofs.YtnnaakinchophaaW.PrintLast Go.Proofs.YtnnaakinchophaaW.PrintMore
theorem info4 : (Try.prog.info? 4).map (fun i => (i.zero, i.size, i.bytes)) = some (some (.bool false), 1, 1) := by kernel_rfl
theorem info59 : (Try.prog.info? 59).map (fun i => (i.zero, i.size, i.bytes)) = some (some (.slice none 0 0), 1, 24) := by kernel_rfl
theorem blk_newI {w : World} {k : Nat} (o : Obj) (h : k = w.heap.size) : (w.alloc o).heap[k]? = some o := by subst h; exact blk_new w o
/-- The cell of a graph. -/
def gbox (N A B : Nat) : Obj := .cells #[.slice (some ⟨A, 0, none⟩) N N, .slice (some ⟨B, 0, none⟩) N N] 61
structure RofK (w wr : World) (N k gb A1 B1 : Nat) (R : Nat → Nat) : Prop where
  mat : MatK wr N k w.heap.size A1 B1 R
  box : wr.heap[gb]? = some (gbox N A1 B1)
  res : wr.heap[w.heap.size]? = some (.cells #[.slice none 0 0, .slice none 0 0] 61)
  ne : gb ≠ w.heap.size
  bel : Below w.heap.size w wr
theorem RofK.boxC {w wr : World} {N k gb A1 B1 : Nat} {R : Nat → Nat} (h : RofK w wr N k gb A1 B1 R) : wr.cell? ⟨gb, 0, none⟩ = some (.slice (some ⟨A1, 0, none⟩) N N) ∧ wr.cell? ⟨gb, 1, none⟩ = some (.slice (some ⟨B1, 0, none⟩) N N) := ⟨(blk_cell h.box 0).trans rfl, (blk_cell h.box 1).trans rfl⟩
theorem MatK.nearC {w : World} {n k base A B : Nat} {R : Nat → Nat} (h : MatK w n k base A B R) (i : Nat) (hi : k ≤ i) (hn : i < n) : w.cell? ⟨A, i, none⟩ = some (.slice none 0 0) ∧ w.frozen? ⟨A, i, none⟩ = false := ⟨(blk_cell h.near i).trans ((tab_get i hn).trans (by rw [if_neg (by omega)])), blk_frozen h.near i⟩
theorem MatK.leftC {w : World} {n k base A B : Nat} {R : Nat → Nat} (h : MatK w n k base A B R) (i : Nat) (hn : i < n) : w.cell? ⟨B, i, none⟩ = some (.bool (decide (i < k))) ∧ w.frozen? ⟨B, i, none⟩ = false := ⟨(blk_cell h.left i).trans (tab_get i hn), blk_frozen h.left i⟩
theorem MatK.alloc {w : World} {n k base A B : Nat} {R : Nat → Nat} (h : MatK w n k base A B R) (o : Obj) : MatK (w.alloc o) n k base A B R :=
  ⟨blk_alloc h.near o, blk_alloc h.left o, fun i hi => blk_alloc (h.row i hi) o, h.inj, h.neB, h.baseA, h.baseB, h.baseR⟩
theorem RofK.alloc {w wr : World} {N k gb A1 B1 : Nat} {R : Nat → Nat} (h : RofK w wr N k gb A1 B1 R) (o : Obj) : RofK w (wr.alloc o) N k gb A1 B1 R :=
  ⟨h.mat.alloc o, blk_alloc h.box o, blk_alloc h.res o, h.ne, h.bel.alloc h.bel.size o⟩
theorem types_ne {w : World} {g g' t t' : Nat} {c c' : Array Value} (h : w.heap[g]? = some (.cells c t (0, 0))) (h' : w.heap[g']? = some (.cells c' t' (0, 0))) (hne : t ≠ t') : g ≠ g' ∧ g' ≠ g := by
  have : g ≠ g' := fun e => by
    rw [e, h'] at h
    have := Option.some.inj h
    injection this with _ h2
    exact hne h2.symm
  exact ⟨this, fun e => this e.symm⟩
theorem RofK.start {w wr : World} {N gb A1 B1 : Nat} (hbox : wr.heap[gb]? = some (gbox N A1 B1)) (hnear : wr.heap[A1]? = some (.cells (tab N fun _ => .slice none 0 0) 59)) (hleft : wr.heap[B1]? = some (.cells (tab N fun _ => .bool false) 4))
    (hres : wr.heap[w.heap.size]? = some (.cells #[.slice none 0 0, .slice none 0 0] 61)) (hne : gb ≠ w.heap.size) (hbel : Below w.heap.size w wr) (ba : w.heap.size ≤ A1) (bb : w.heap.size ≤ B1) : ∃ gb' A1 B1, Value.pointer (some ⟨gb, 0, none⟩) = .pointer (some ⟨gb', 0, none⟩) ∧ RofK w wr N 0 gb' A1 B1 (fun _ => 0) :=
  ⟨gb, A1, B1, rfl, ⟨⟨hnear, hleft, fun i hi => by omega, fun i j hi => by omega, fun i hi => by omega, ba, bb, fun i hi => by omega⟩, hbox, hres, hne, hbel⟩⟩
theorem RofK.step {w wr : World} {N k gb A1 B1 : Nat} {R : Nat → Nat} (h : RofK w wr N k gb A1 B1 R) (hk : k < N) :
    RofK w (((wr.alloc (.cells (tab N fun _ => .bool false) 4)).setCell ⟨A1, k, none⟩ (.slice (some ⟨wr.heap.size, 0, none⟩) N N)).setCell ⟨B1, k, none⟩ (.bool true)).drew N (k + 1) gb A1 B1 (up R k wr.heap.size) := by
  have hm := h.mat.step hk h.bel.size
  obtain ⟨ne1, ne2⟩ := types_ne h.box h.mat.near (by decide)
  obtain ⟨ne3, ne4⟩ := types_ne h.box h.mat.left (by decide)
  obtain ⟨ne5, ne6⟩ := types_ne h.res h.mat.near (by decide)
  obtain ⟨ne7, ne8⟩ := types_ne h.res h.mat.left (by decide)
  refine ⟨⟨hm.near, hm.left, hm.row, hm.inj, hm.neB, hm.baseA, hm.baseB, hm.baseR⟩, ?_, ?_, h.ne, ?_⟩
  · exact (Below.heap_setCell _ ⟨B1, k, none⟩ _ gb ne3).trans ((Below.heap_setCell _ ⟨A1, k, none⟩ _ gb ne1).trans (blk_alloc h.box _))
  · exact (Below.heap_setCell _ ⟨B1, k, none⟩ _ _ ne7).trans ((Below.heap_setCell _ ⟨A1, k, none⟩ _ _ ne5).trans (blk_alloc h.res _))
  · exact (((h.bel.alloc h.bel.size _).setCell h.mat.baseA _).setCell h.mat.baseB _).drew
structure RofI (w wr : World) (N gb A1 B1 : Nat) (R H : Nat → Nat) : Prop where
  mat : Mat wr N w.heap.size A1 B1 R H (2 ^ N - 1)
  box : wr.heap[gb]? = some (gbox N A1 B1)
  res : wr.heap[w.heap.size]? = some (.cells #[.slice none 0 0, .slice none 0 0] 61)
  ne : gb ≠ w.heap.size
  bel : Below w.heap.size w wr
theorem RofK.done {w wr : World} {N gb A1 B1 : Nat} {R : Nat → Nat} (h : RofK w wr N N gb A1 B1 R) : RofI w wr N gb A1 B1 R (fun _ => 0) := ⟨h.mat.mat, h.box, h.res, h.ne, h.bel⟩
theorem RofI.boxC {w wr : World} {N gb A1 B1 : Nat} {R H : Nat → Nat} (h : RofI w wr N gb A1 B1 R H) : wr.cell? ⟨gb, 0, none⟩ = some (.slice (some ⟨A1, 0, none⟩) N N) ∧ wr.cell? ⟨gb, 1, none⟩ = some (.slice (some ⟨B1, 0, none⟩) N N) := ⟨(blk_cell h.box 0).trans rfl, (blk_cell h.box 1).trans rfl⟩
theorem RofI.set {w wr : World} {N gb A1 B1 : Nat} {R H H' : Nat → Nat} (h : RofI w wr N gb A1 B1 R H) (a b : Nat) (u : Bool) (ha : a < N) (hm : Mat (wr.setCell ⟨R a, b, none⟩ (.bool u)) N w.heap.size A1 B1 R H' (2 ^ N - 1)) : RofI w (wr.setCell ⟨R a, b, none⟩ (.bool u)).drew N gb A1 B1 R H' :=
  ⟨hm.drew, (Below.heap_setCell _ ⟨R a, b, none⟩ _ gb (types_ne h.box (h.mat.row a ha) (by decide)).1).trans h.box, (Below.heap_setCell _ ⟨R a, b, none⟩ _ _ (types_ne h.res (h.mat.row a ha) (by decide)).1).trans h.res, h.ne, (h.bel.setCell (h.mat.baseR a ha) _).drew⟩
set_option maxHeartbeats 4000000 in
set_option maxRecDepth 100000 in
theorem rof_calls (N : Nat) (A : Option Addr) (c : Nat) (l : List (List Int)) (w : World) (hr : Kd.C kl w A l.length l) (hc : l.length ≤ c) (hn : N ≤ 16) (hv : ∀ x ∈ l, ∀ v ∈ x, 0 ≤ v ∧ v < (N : Int)) :
    Calls Try.prog 42 #[.int .i64 (N : Int), .slice A l.length c] w fun e w' => ∃ A1 B1 R, e = .returned (.agg #[.slice (some ⟨A1, 0, none⟩) N N, .slice (some ⟨B1, 0, none⟩) N N]) ∧ Mat w' N w.heap.size A1 B1 R (ofG l) (2 ^ N - 1) ∧ Below w.heap.size w w' := by
  have hmax := Kd.C_max hr
  have HR := Aside0.mk hr
  have HV := Aside0.mk hv
  have hu61 := Try.underlying61
  have hmk1 := print_make_of (P := Try.prog) 58 59 (.slice none 0 0) 24 Try.underlying58 info59 rfl (by decide) N (by omega)
  have hmk2 := print_make_of (P := Try.prog) 59 4 (.bool false) 1 Try.underlying59 info4 rfl (by decide) N (by omega)
  rw [tab_made] at hmk1 hmk2
  clear hr hv
  go_enter Try.func42, Try.ntmps42
  go_upto_region 1 with fail
  go_cut [5] (fun s5 wx => ∃ gb A1 B1, s5 = .pointer (some ⟨gb, 0, none⟩) ∧ RofK w wx N 0 gb A1 B1 (fun _ => 0))
  case first =>
    go_region
    all_goals (go_wp2_with fail; go_meet)
    all_goals apply RofK.start
    all_goals try (case hbox => exact blk_drew (by repeat (first | (refine blk_newI _ ?_; simp; done) | refine blk_alloc ?_ _)))
    all_goals try (case hnear => exact blk_drew (by repeat (first | (refine blk_newI _ ?_; simp; done) | refine blk_alloc ?_ _)))
    all_goals try (case hleft => exact blk_drew (by repeat (first | (refine blk_newI _ ?_; simp; done) | refine blk_alloc ?_ _)))
    all_goals try (case hres => exact blk_drew (by repeat (first | (refine blk_newI _ ?_; simp; done) | refine blk_alloc ?_ _)))
    all_goals try (case hne => omega)
    all_goals try (case ba => omega)
    all_goals try (case bb => omega)
    all_goals try (case hbel => exact below_drew (by repeat (first | exact Below.refl _ _ | refine below_alloc ?_ _)))
  case rest =>
    obtain ⟨gb, A1, B1, rfl, HI0⟩ := hcut
    have hb0 := HI0.boxC.1
    go_wp2
    go_loopw [21] (fun s21 wr => ∃ k : Nat, ∃ R : Nat → Nat, k ≤ N ∧ s21 = .int .i64 (k : Int) ∧ RofK w wr N k gb A1 B1 R) (fun s21 _ => (N - (intOf s21).toNat))
    case atStart => exact ⟨0, _, by omega, rfl, HI0⟩
    case round =>
      clear HI0 hb0
      obtain ⟨k, R, hk, rfl, HI⟩ := hrel
      by_cases hlt : k < N
      · have hkd : decide (k < N) = true := decide_eq_true hlt
        obtain ⟨hb0, hb1⟩ := HI.boxC
        obtain ⟨hn0, hn1⟩ := HI.mat.nearC k (Nat.le_refl _) hlt
        obtain ⟨hl0, hl1⟩ := HI.mat.leftC k hlt
        have HI2 := HI.alloc (.cells (tab N fun _ => .bool false) 4)
        obtain ⟨hb0', hb1'⟩ := HI2.boxC
        obtain ⟨hn0', hn1'⟩ := HI2.mat.nearC k (Nat.le_refl _) hlt
        obtain ⟨hl0', hl1'⟩ := HI2.mat.leftC k hlt
        obtain ⟨ne1, ne2⟩ := types_ne HI.box HI.mat.near (by decide)
        obtain ⟨ne3, ne4⟩ := types_ne HI.box HI.mat.left (by decide)
        obtain ⟨ne5, ne6⟩ := types_ne HI.mat.near HI.mat.left (by decide)
        go_wp2
        go_region
        go_wp2
        go_roundw
        case rel => exact ⟨k + 1, _, by omega, by go_num, HI.step hlt⟩
        case measure => simp [intOf]; omega
      · obtain rfl : k = N := by omega
        have HO0 := HI.done
        clear HI hk
        go_wp2
        go_loopw [37] (fun s37 wr => ∃ i : Nat, ∃ H : Nat → Nat, i ≤ l.length ∧ s37 = .int .i64 (i : Int) ∧ Aside0 (of1 H (l.drop i) = ofG l) ∧ RofI w wr k gb A1 B1 R H) (fun s37 _ => (l.length - (intOf s37).toNat))
        case atStart => exact ⟨0, _, by omega, rfl, ⟨rfl⟩, HO0⟩
        case round =>
          clear HO0 hlt
          obtain ⟨i, H, hi, rfl, HE, HO⟩ := hrel
          by_cases hlt : i < l.length
          · have hkd : decide (i < l.length) = true := decide_eq_true hlt
            obtain ⟨ad, A0, c0, rfl, hx0, hc0, hC0⟩ := kl_at HR.out i hlt
            have hx := pw_cell_below HO.bel hx0
            clear hx0
            have hx0 := Aside0.mk (drop_getD [] l i hlt)
            have hxm := Aside0.mk (getD_mem [] l i hlt)
            have hV0 := Aside0.mk (HV.out _ hxm.out)
            generalize l.getD i [] = x at *
            have hC0m := Kd.C_max hC0
            have HC0 := Aside0.mk hC0
            have hT : Aside0 (of1 (of2 H x x) (l.drop (i + 1)) = ofG l) := ⟨by rw [← HE.out, hx0.out]; rfl⟩
            clear HE hx0 hxm hC0
            go_wp2
            go_loopw [43] (fun s43 wr => ∃ j : Nat, ∃ H : Nat → Nat, j ≤ x.length ∧ s43 = .int .i64 (j : Int) ∧ Aside0 (of1 (of2 H x (x.drop j)) (l.drop (i + 1)) = ofG l) ∧ RofI w wr k gb A1 B1 R H) (fun s43 _ => (x.length - (intOf s43).toNat))
            case atStart => exact ⟨0, _, by omega, rfl, hT, HO⟩
            case round =>
              clear hT HO hx
              obtain ⟨j, H, hj, rfl, HE, HO⟩ := hrel
              by_cases hltj : j < x.length
              · have hkd2 : decide (j < x.length) = true := decide_eq_true hltj
                obtain ⟨ad2, rfl, hyw⟩ := kn_at HC0.out j hltj
                have hy := pw_cell_below HO.bel hyw
                clear hyw
                have hy0 := Aside0.mk (drop_getD 0 x j hltj)
                have hym := hV0.out _ (getD_mem 0 x j hltj)
                obtain ⟨a, ha⟩ := Int.eq_ofNat_of_zero_le hym.1
                rw [ha] at hym hy hy0
                have hya : a < k := by omega
                have hT : Aside0 (of1 (of2 (of3 H (a : Int) x) x (x.drop (j + 1))) (l.drop (i + 1)) = ofG l) := ⟨by rw [← HE.out, hy0.out]; rfl⟩
                clear hym ha hy0 HE
                go_wp2
                go_loopw [49] (fun s49 wr => ∃ q : Nat, ∃ H : Nat → Nat, q ≤ x.length ∧ s49 = .int .i64 (q : Int) ∧ Aside0 (of1 (of2 (of3 H (a : Int) (x.drop q)) x (x.drop (j + 1))) (l.drop (i + 1)) = ofG l) ∧ RofI w wr k gb A1 B1 R H) (fun s49 _ => (x.length - (intOf s49).toNat))
                case atStart => exact ⟨0, _, by omega, rfl, hT, HO⟩
                case round =>
                  clear hT HO hy
                  obtain ⟨q, H, hq, rfl, HE, HO⟩ := hrel
                  by_cases hltq : q < x.length
                  · have hkd3 : decide (q < x.length) = true := decide_eq_true hltq
                    obtain ⟨ad3, had, hzw⟩ := kn_at HC0.out q hltq
                    obtain rfl := Option.some.inj had
                    have hz := pw_cell_below HO.bel hzw
                    clear hzw
                    have hz0 := Aside0.mk (drop_getD 0 x q hltq)
                    have hzm := hV0.out _ (getD_mem 0 x q hltq)
                    obtain ⟨b, hb⟩ := Int.eq_ofNat_of_zero_le hzm.1
                    rw [hb] at hzm hz hz0
                    have hzb : b < k := by omega
                    have hb0 := HO.boxC.1
                    have hna := HO.mat.nearC a hya
                    have hrc := HO.mat.rowC a b hya hzb
                    have hrf := HO.mat.rowF a b hya
                    by_cases hab : a = b
                    · have hT : Aside0 (of1 (of2 (of3 H (a : Int) (x.drop (q + 1))) x (x.drop (j + 1))) (l.drop (i + 1)) = ofG l) := ⟨by rw [← HE.out, hz0.out, of3_same H a b hab]⟩
                      have hqq : ((a : Int) != (b : Int)) = false := by rw [hab]; simp
                      have HOn := HO.set a b _ hya (HO.mat.same a b hya)
                      clear hzm hb hz0 HE hab
                      cases htb : (H a).testBit b with
                      | true =>
                        rw [htb] at hrc HOn
                        go_wp2
                        go_region
                        go_wp2
                        go_roundw
                        case rel => exact ⟨q + 1, H, by omega, by go_num, hT, HOn⟩
                        case measure => simp [intOf]; omega
                      | false =>
                        rw [htb] at hrc HOn
                        go_wp2
                        go_region
                        go_wp2
                        go_roundw
                        case rel => exact ⟨q + 1, H, by omega, by go_num, hT, HOn⟩
                        case measure => simp [intOf]; omega
                    · have hT : Aside0 (of1 (of2 (of3 (up H a (sb (H a) b)) (a : Int) (x.drop (q + 1))) x (x.drop (j + 1))) (l.drop (i + 1)) = ofG l) := ⟨by rw [← HE.out, hz0.out, of3_ne H a b hab]⟩
                      have hqq : ((a : Int) != (b : Int)) = true := by rw [bne_iff_ne]; omega
                      have HOn := HO.set a b true hya (HO.mat.add a b hya)
                      clear hzm hb hz0 HE hab
                      cases htb : (H a).testBit b with
                      | true =>
                        rw [htb] at hrc
                        go_wp2
                        go_region
                        go_wp2
                        go_roundw
                        case rel => exact ⟨q + 1, _, by omega, by go_num, hT, HOn⟩
                        case measure => simp [intOf]; omega
                      | false =>
                        rw [htb] at hrc
                        go_wp2
                        go_region
                        go_wp2
                        go_roundw
                        case rel => exact ⟨q + 1, _, by omega, by go_num, hT, HOn⟩
                        case measure => simp [intOf]; omega
                  · obtain rfl : q = x.length := by omega
                    go_wp2
                    go_roundw
                    case rel => exact ⟨j + 1, H, by omega, by go_num, ⟨by rw [← HE.out, List.drop_length]; rfl⟩, HO⟩
                    case measure => simp [intOf]; omega
              · obtain rfl : j = x.length := by omega
                go_wp2
                go_roundw
                case rel => exact ⟨i + 1, H, by omega, by go_num, ⟨by rw [← HE.out, List.drop_length]; rfl⟩, HO⟩
                case measure => simp [intOf]; omega
          · obtain rfl : i = l.length := by omega
            have hend : ofG l = H := by rw [← HE.out, List.drop_length]; rfl
            obtain ⟨hb0, hb1⟩ := HO.boxC
            have hr0 : wr.cell? ⟨w.heap.size, 0, none⟩ = some (.slice none 0 0) := (blk_cell HO.res 0).trans rfl
            have hr1 : wr.cell? ⟨w.heap.size, 1, none⟩ = some (.slice none 0 0) := (blk_cell HO.res 1).trans rfl
            have hf0 : wr.frozen? ⟨w.heap.size, 0, none⟩ = false := blk_frozen HO.res 0
            have hf1 : wr.frozen? ⟨w.heap.size, 1, none⟩ = false := blk_frozen HO.res 1
            have hG2 : wr.grownBy ((wr.setCell ⟨w.heap.size, 0, none⟩ (.slice (some ⟨A1, 0, none⟩) k k)).setCell ⟨w.heap.size, 1, none⟩ (.slice (some ⟨B1, 0, none⟩) k k)) (some w.heap.size) := gb_set (gb_set (gb_refl _ _) 0 _) 1 _
            have hres2 : ((wr.setCell ⟨w.heap.size, 0, none⟩ (.slice (some ⟨A1, 0, none⟩) k k)).setCell ⟨w.heap.size, 1, none⟩ (.slice (some ⟨B1, 0, none⟩) k k)).heap[w.heap.size]? = some (.cells #[.slice (some ⟨A1, 0, none⟩) k k, .slice (some ⟨B1, 0, none⟩) k k] 61 (0, 0)) := (blk_set (blk_set HO.res 0 _) 1 _).trans rfl
            have hoth : ∀ g, g < wr.heap.size → g ≠ w.heap.size → ((wr.setCell ⟨w.heap.size, 0, none⟩ (.slice (some ⟨A1, 0, none⟩) k k)).setCell ⟨w.heap.size, 1, none⟩ (.slice (some ⟨B1, 0, none⟩) k k)).heap[g]? = wr.heap[g]? := fun g hg hne => hG2.block g hg (fun e => hne (by injection e))
            have HM := HO.mat
            have neA := (types_ne HO.res HM.near (by decide)).2
            have neB := (types_ne HO.res HM.left (by decide)).2
            have neR := fun i hi => (types_ne HO.res (HM.row i hi) (by decide)).2
            have HM2 : Mat ((wr.setCell ⟨w.heap.size, 0, none⟩ (.slice (some ⟨A1, 0, none⟩) k k)).setCell ⟨w.heap.size, 1, none⟩ (.slice (some ⟨B1, 0, none⟩) k k)) k w.heap.size A1 B1 R H (2 ^ k - 1) :=
              ⟨(hoth _ (blk_lt HM.near) neA).trans HM.near, (hoth _ (blk_lt HM.left) neB).trans HM.left, fun i hi => (hoth _ (blk_lt (HM.row i hi)) (neR i hi)).trans (HM.row i hi), HM.inj, HM.neB, HM.baseA, HM.baseB, HM.baseR⟩
            have hB2 : Below w.heap.size w ((wr.setCell ⟨w.heap.size, 0, none⟩ (.slice (some ⟨A1, 0, none⟩) k k)).setCell ⟨w.heap.size, 1, none⟩ (.slice (some ⟨B1, 0, none⟩) k k)) := HO.bel.grown hG2 HO.bel.size (fun q hq => by cases hq; exact Nat.le_refl _)
            have HZ := Aside0.mk (And.intro hres2 (And.intro HM2 hB2))
            clear hG2 hres2 hoth HM neA neB neR HM2 hB2
            go_wp2
            refine bodyPost_ret (results_cell_row rfl _ _ w.heap.size 61 _ (0, 0) _ rfl HZ.out.1 Try.underlying61 rfl (by kernel_rfl)) rfl ?_
            rw [hend]
            exact ⟨A1, B1, R, rfl, HZ.out.2.1, HZ.out.2.2⟩
end Go.Proofs.Ytnnaakinchophaa.Ord
