/- The program's played, Width and Fill, walked; conditions as written. -/
import Derived.Test.YtnnaakinchophaaOrdJ
namespace Go.Proofs.Ytnnaakinchophaa.Ord
set_option linter.unusedVariables false
set_option linter.unusedSimpArgs false
open Go.RowKit Go.Proofs.YtnnaakinchophaaW.PrintWords Go.Proofs.YtnnaakinchophaaW.PrintLast Go.Proofs.YtnnaakinchophaaW.PrintMore

/-- What eliminating in an order shows: the width, the fill. -/
def plL : (Nat → Nat) → Int → List (Int × Int) → List Int → Int × List (Int × Int)
  | _, w, f, [] => (w, f)
  | G, w, f, v :: r => plL (elimF G v.toNat) (mx w (popc (G v.toNat) : Int)) (f ++ mis G v.toNat) r
def playedF (n : Int) (l : List (List Int)) (o : List Int) : Int × List (Int × Int) × Int :=
  if rightF n l && allF n o then ((plL (ofG l) 0 [] o).1, (plL (ofG l) 0 [] o).2, 0) else (0, [], 1)
theorem allF_true {n : Nat} {o : List Int} (h : allF n o = true) : o.length = n ∧ ∀ v ∈ o, 0 ≤ v ∧ v < (n : Int) := by
  unfold allF at h
  rw [Bool.and_eq_true, decide_eq_true_eq] at h
  refine ⟨by omega, ?_⟩
  have h1 := h.1
  clear h
  generalize 0 = seen at h1
  induction o generalizing seen with
  | nil => intro v hv; cases hv
  | cons x r ih =>
    unfold alL at h1
    by_cases hx : x < 0 ∨ (n : Int) ≤ x
    · rw [if_pos hx] at h1; cases h1
    · rw [if_neg hx] at h1
      by_cases hs : seen.testBit x.toNat = true
      · rw [if_pos hs] at h1; cases h1
      · rw [if_neg hs] at h1
        intro v hv
        rcases List.mem_cons.1 hv with rfl | hv
        · omega
        · exact ih _ h1 v hv
structure PlI (w wr : World) (g : Nat) (H : Nat → Nat) (s : Value) (f : List (Int × Int)) : Prop where
  arr : Arr wr g H
  row : Kd.R kp 48 wr w.heap.size (fun _ => True) s f
  bel : Below w.heap.size w wr
  base : w.heap.size ≤ g
  lt : ∀ i, H i < 65536
theorem addL_lt : ∀ (l : List (Int × Int)) (G : Nat → Nat), (∀ i, G i < 65536) → (∀ p ∈ l, p.1.toNat < 16 ∧ p.2.toNat < 16) → ∀ i, addL G l i < 65536
  | [], G, hG, _ => hG
  | p :: r, G, hG, hl => by
    have h1 := hl p List.mem_cons_self
    exact addL_lt r _ (up_lt (up_lt hG (sb_lt (hG _) h1.2) _) (sb_lt (up_lt hG (sb_lt (hG _) h1.2) _ _) h1.1) _) (fun q hq => hl q (List.mem_cons_of_mem _ hq))
theorem elimF_lt {G : Nat → Nat} (hG : ∀ i, G i < 65536) (v i : Nat) : elimF G v i < 65536 := by
  refine cutF_lt (addL_lt _ _ hG (fun p hp => ?_)) v i
  obtain ⟨a, b, h1, h2, rfl, _⟩ := mis_mem hp
  show (a : Int).toNat < 16 ∧ (b : Int).toNat < 16
  omega
theorem kp_move {W : World} {base : Nat} (x : Int × Int) (cs : List Value) (h : kp.K W x cs) : kp.M W base (fun _ => False) x cs := by
  obtain rfl := kp_open h
  exact kp_mkM _ _ _ _ _
theorem PlI.elim_ {w wr w6 : World} {g v : Nat} {H : Nat → Nat} {s : Value} {f : List (Int × Int)} (h : PlI w wr g H s f) (hA : Arr w6 g (elimF H v)) (hG : wr.grownBy w6 (some g)) : PlI w w6 g (elimF H v) s f :=
  ⟨hA, Kd.R_mono (Kd.R_grown (Kd.R_types h.row h.arr.out kp_types) hG (fun q hq he => hq.2 (Option.some.inj he))) (fun _ _ => trivial), h.bel.grown hG h.bel.size (fun k hk => by cases hk; exact h.base), h.base, elimF_lt h.lt v⟩
theorem PlI.push {w W w1 : World} {g : Nat} {H : Nat → Nat} {s v1 : Value} {f f2 : List (Int × Int)} (h : PlI w W g H s f) (ho : Kd.R kp 48 w1 w.heap.size (fun _ => True) v1 f2) (hb : Below w.heap.size w w1) (hg : W.grownBy w1 s.ownBlock) : PlI w w1 g H v1 f2 :=
  ⟨⟨(hg.block _ (blk_lt h.arr.out) (Kd.R_ne h.row h.arr.out (by decide))).trans h.arr.out⟩, ho, hb, h.base, h.lt⟩
theorem max2i (x y : Int) : (if x < y then y else x) = mx x y := rfl
set_option maxHeartbeats 4000000 in
set_option maxRecDepth 100000 in
theorem played_calls (n : Int) (A : Option Addr) (c : Nat) (l : List (List Int)) (Ao : Option Addr) (co : Nat) (o : List Int) (w : World) (hr : Kd.C kl w A l.length l) (hc : l.length ≤ c) (ho : Kd.C (Kd.int .i64) w Ao o.length o) :
    Calls Try.prog 51 #[.int .i64 n, .slice A l.length c, .slice Ao o.length co] w fun e w' => ∃ v0, e = .returned (.tuple #[.int .i64 (playedF n l o).1, v0, .int .i64 (playedF n l o).2.2]) ∧ Kd.R kp 48 w' w.heap.size (fun _ => True) v0 (playedF n l o).2.1 ∧ Below w.heap.size w w' := by
  have HC := Aside0.mk (right_calls n A c l w hr hc)
  cases hR : rightF n l with
  | false =>
    have hE : playedF n l o = (0, [], 1) := by unfold playedF; rw [hR]; rfl
    rw [hR] at HC
    rw [hE]
    clear hr hR hE
    go_enter Try.func51, Try.ntmps51
    go_wp2_with fail
    refine HC.out.mono ?_
    rintro e w1 ⟨rfl, hb⟩
    have HB := Aside0.mk hb
    clear hb
    go_wp2
    go_ret3
    exact ⟨_, rfl, Kd.R_nil _ _ _ _ _, HB.out⟩
  | true =>
    have hT := rightF_true hR
    obtain ⟨N, rfl⟩ := Int.eq_ofNat_of_zero_le hT.1
    have hN : N ≤ 16 := by omega
    have hv : ∀ x ∈ l, ∀ v ∈ x, 0 ≤ v ∧ v < 16 := fun x hx v hv => by
      have := (hT.2.2.2 x hx).2 v hv
      omega
    rw [hR] at HC
    have HV := Aside0.mk hv
    have HR := Aside0.mk hr
    have HOr := Aside0.mk ho
    cases hA : allF N o with
    | false =>
      have hE : playedF N l o = (0, [], 1) := by unfold playedF; rw [hR, hA]; rfl
      rw [hE]
      clear hr hR hv hT hE ho
      go_enter Try.func51, Try.ntmps51
      go_wp2_with fail
      refine HC.out.mono ?_
      rintro e w1 ⟨rfl, hb⟩
      have HB := Aside0.mk hb
      have HA := all_calls N Ao co o w1 hN (Kd.C_below HOr.out hb)
      rw [hA] at HA
      have HA2 := Aside0.mk HA
      clear hb HA
      go_wp2_with fail
      refine HA2.out.mono ?_
      rintro e w2 ⟨rfl, rfl⟩
      go_wp2
      go_ret3
      exact ⟨_, rfl, Kd.R_nil _ _ _ _ _, HB.out⟩
    | true =>
      have hE : playedF N l o = ((plL (ofG l) 0 [] o).1, (plL (ofG l) 0 [] o).2, 0) := by unfold playedF; rw [hR, hA]; rfl
      have hAT := allF_true hA
      have hol : o.length ≤ 16 := by have := hAT.1; omega
      have HAT := Aside0.mk hAT.2
      rw [hE]
      clear hr hR hv hT hE ho hAT
      go_enter Try.func51, Try.ntmps51
      go_wp2_with fail
      refine HC.out.mono ?_
      rintro e w1 ⟨rfl, hb⟩
      have HB := Aside0.mk hb
      have HA := all_calls N Ao co o w1 hN (Kd.C_below HOr.out hb)
      rw [hA] at HA
      have HA2 := Aside0.mk HA
      have HR1 := Aside0.mk (Kd.C_below HR.out hb)
      clear hb HA HR
      go_wp2_with fail
      refine HA2.out.mono ?_
      rintro e w2 ⟨rfl, rfl⟩
      clear HA2 hA
      go_wp2_with fail
      refine (of_calls A c l w2 HR1.out hc HV.out).mono ?_
      rintro e w3 ⟨rfl, hb⟩
      have HB2 := Aside0.mk (below_step HB.out hb)
      clear hb HB HR1
      have hlt := ofG_lt l HV.out
      generalize hG : ofG l = G at *
      have HGe := Aside0.mk hG
      clear hG
      have hA2 : Arr (w3.alloc (.cells (gcells fun _ => 0) 53)) w3.heap.size (fun _ => 0) := ⟨blk_new w3 _⟩
      go_wp2_with ((with_reducible refine gate_store (t := 53) (p := 9) (v := .tmp 25) rfl ?_); refine store_arr rfl (.tmp 9) (.tmp 25) rfl rfl w3.heap.size G (fun _ => 0) rfl rfl hA2 ?_; intro w4 hA3 hG3)
      have hb3 : Below w.heap.size w w4 := ((HB2.out.alloc HB2.out.size _)).grown hG3 (Nat.le_trans HB2.out.size (by simp)) (fun k hk => by cases hk; exact HB2.out.size)
      have HI0 : PlI w w4 w3.heap.size G (.slice none 0 0) [] := ⟨hA3, Kd.R_nil _ _ _ _ _, hb3, HB2.out.size, hlt⟩
      clear hA2 hA3 hG3 hb3 hlt
      go_loopw [10, 11, 28] (fun s10 s11 s28 wr => ∃ k : Nat, ∃ H : Nat → Nat, ∃ wd : Int, ∃ f : List (Int × Int), k ≤ o.length ∧ s28 = .int .i64 (k : Int) ∧ s10 = .int .i64 wd ∧ Aside0 (plL H wd f (o.drop k) = plL G 0 [] o) ∧ Aside0 (f.length ≤ 256 * k) ∧ PlI w wr w3.heap.size H s11 f) (fun _ _ s28 _ => (o.length - (intOf s28).toNat))
      case atStart => exact ⟨0, G, 0, [], by omega, rfl, rfl, ⟨rfl⟩, ⟨by simp⟩, HI0⟩
      case round =>
        clear HI0
        obtain ⟨k, H, wd, f, hk, rfl, rfl, HE, HFL, HI⟩ := hrel
        by_cases hlt : k < o.length
        · have hkd : decide (k < o.length) = true := decide_eq_true hlt
          obtain ⟨ad, rfl, hx0⟩ := kn_at HOr.out k hlt
          have hx := pw_cell_below HI.bel hx0
          have hd := Aside0.mk (drop_getD 0 o k hlt)
          have hm := HAT.out _ (getD_mem 0 o k hlt)
          obtain ⟨v, hvv⟩ := Int.eq_ofNat_of_zero_le hm.1
          rw [hvv] at hx hd hm
          have hv16 : v < 16 := by omega
          have hT : Aside0 (plL (elimF H v) (mx wd (popc (H v) : Int)) (f ++ mis H v) (o.drop (k + 1)) = plL G 0 [] o) := ⟨by rw [← HE.out, hd.out]; rfl⟩
          have hml := mis_len H v
          clear hx0 hd hm HE
          go_wp2_with fail
          refine (degree_calls w3.heap.size v H _ HI.arr hv16 (HI.lt v)).mono ?_
          rintro e w5 ⟨rfl, hD⟩
          obtain ⟨⟨m, rfl⟩⟩ := hD
          have hbd : Below wr.heap.size wr (wr.drewN m) := pw_below_drewN (Below.refl _ _) m
          have HEl := Aside0.mk (eliminate_calls w3.heap.size v H (wr.drewN m) (HI.arr.below hbd) hv16 HI.lt)
          have hmx := max2i wd (popc (H v) : Int)
          clear hx
          go_wp2_with fail
          refine HEl.out.mono ?_
          rintro e w6 ⟨v6, rfl, hR6, hA6, hG6⟩
          have HI6 := HI.elim_ hA6 (gb_trans (grown_of_below hbd (some w3.heap.size)) hG6)
          obtain ⟨A6, c6, rfl, hc6, hC6⟩ := Kd.R_reads hR6
          have HFL2 : Aside0 ((f ++ mis H v).length ≤ 256 * (k + 1)) := ⟨by have := HFL.out; rw [List.length_append]; omega⟩
          have hfl : Aside0 (f.length ≤ 4096) := ⟨by have := HFL.out; omega⟩
          clear HEl hR6 hA6 hG6 HI hmx
          go_wp2_with (at_builtin; refine Kd.R_append_rows kp (w0 := w) w.heap.size rfl (.tmp 36) (.tmp 38) 35 48 (.agg #[.int .i64 0, .int .i64 0]) 16 rfl Try.underlying35 info48 rfl (by decide) (by omega) _ f (mis H v) A6 _ c6 (fun _ => True) (fun _ => False) rfl rfl ?aO hC6 kp_move (fun _ hk => hk.elim) (fun _ _ => trivial) ?aB ?aS ?aL ?_; (case aO => exact HI6.row); (case aB => exact HI6.bel); (case aS => exact HI6.bel.size); (case aL => have := hfl.out; omega); intro v7 w7 ho7 hb7 hg7 hat7; have HI7 := HI6.push ho7 hb7 hg7; clear ho7 hb7 hg7 hat7 HI6 hC6)
          go_roundw
          case rel => exact ⟨k + 1, _, _, _, by omega, by go_num, rfl, hT, HFL2, HI7⟩
          case measure => simp [intOf]; omega
        · obtain rfl : k = o.length := by omega
          have hend : Aside0 (plL G 0 [] o = (wd, f)) := ⟨by rw [← HE.out, List.drop_length]; rfl⟩
          go_wp2
          go_ret3
          refine ⟨_, by rw [HGe.out, hend.out]; rfl, ?_, HI.bel⟩
          rw [HGe.out, hend.out]
          exact HI.row
set_option maxHeartbeats 400000 in
theorem width_calls (n : Int) (A : Option Addr) (c : Nat) (l : List (List Int)) (Ao : Option Addr) (co : Nat) (o : List Int) (w : World) (hr : Kd.C kl w A l.length l) (hc : l.length ≤ c) (ho : Kd.C (Kd.int .i64) w Ao o.length o) :
    Calls Try.prog 26 #[.int .i64 n, .slice A l.length c, .slice Ao o.length co] w fun e w' => e = .returned (.tuple #[.int .i64 (playedF n l o).1, .int .i64 (playedF n l o).2.2]) ∧ Below w.heap.size w w' := by
  have H1 := Aside0.mk (played_calls n A c l Ao co o w hr hc ho)
  generalize playedF n l o = P at *
  obtain ⟨P1, P2, P3⟩ := P
  clear hr hc ho
  go_enter Try.func26, Try.ntmps26
  go_wp2_with fail
  refine H1.out.mono ?_
  rintro e w1 ⟨v0, rfl, hR, hB⟩
  have HB := Aside0.mk hB
  clear hR hB H1
  go_wp2
  go_ret2
  exact ⟨rfl, HB.out⟩
set_option maxHeartbeats 400000 in
theorem fill_calls (n : Int) (A : Option Addr) (c : Nat) (l : List (List Int)) (Ao : Option Addr) (co : Nat) (o : List Int) (w : World) (hr : Kd.C kl w A l.length l) (hc : l.length ≤ c) (ho : Kd.C (Kd.int .i64) w Ao o.length o) :
    Calls Try.prog 28 #[.int .i64 n, .slice A l.length c, .slice Ao o.length co] w fun e w' => ∃ v0, e = .returned (.tuple #[v0, .int .i64 (playedF n l o).2.2]) ∧ Kd.R kp 48 w' w.heap.size (fun _ => True) v0 (playedF n l o).2.1 ∧ Below w.heap.size w w' := by
  have H1 := Aside0.mk (played_calls n A c l Ao co o w hr hc ho)
  generalize playedF n l o = P at *
  obtain ⟨P1, P2, P3⟩ := P
  clear hr hc ho
  go_enter Try.func28, Try.ntmps28
  go_wp2_with fail
  refine H1.out.mono ?_
  rintro e w1 ⟨v0, rfl, hR, hB⟩
  have HB := Aside0.mk (And.intro hR hB)
  clear hR hB H1
  go_wp2
  go_ret2
  exact ⟨_, rfl, HB.out.1, HB.out.2⟩
end Go.Proofs.Ytnnaakinchophaa.Ord
