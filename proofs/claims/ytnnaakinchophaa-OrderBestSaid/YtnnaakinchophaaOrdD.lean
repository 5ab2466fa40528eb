/- The program's of, walked; conditions as written. -/
import Derived.Test.YtnnaakinchophaaOrdC
namespace Go.Proofs.Ytnnaakinchophaa.Ord
set_option linter.unusedVariables false
open Go.RowKit Go.Proofs.YtnnaakinchophaaW.PrintWords Go.Proofs.YtnnaakinchophaaW.PrintLast Go.Proofs.YtnnaakinchophaaW.PrintMore

/-! ### Rows of rows -/
def kn : Kd Int := Kd.int .i64
def kl : Kd (List Int) := Kd.slice 3 (Kd.int .i64)
theorem kl_at {w : World} {A : Option Addr} {n : Nat} {xs : List (List Int)} (h : Kd.C kl w A n xs) (i : Nat) (h1 : i < n) : ∃ ad A0 c0, A = some ad ∧ w.cell? (ad.add i) = some (.slice A0 (xs.getD i []).length c0) ∧ (xs.getD i []).length ≤ c0 ∧ Kd.C (Kd.int .i64) w A0 (xs.getD i []).length (xs.getD i []) := by
  obtain ⟨ad, c, e, _, hK, hc0⟩ := Kd.C_get h [] (i : Int) (by omega) (by omega)
  have hc : ∀ j u, c[j]? = some u → w.cell? (ad.add (i * 1 + j)) = some u := hc0
  obtain ⟨A0, c0, rfl, hl, hC⟩ := hK
  have h0 := hc 0 _ rfl
  rw [Nat.mul_one, Nat.add_zero] at h0
  exact ⟨ad, A0, c0, e, h0, hl, hC⟩
theorem kn_at {w : World} {A : Option Addr} {n : Nat} {xs : List Int} (h : Kd.C (Kd.int .i64) w A n xs) (i : Nat) (h1 : i < n) : ∃ ad, A = some ad ∧ w.cell? (ad.add i) = some (.int .i64 (xs.getD i 0)) := by
  obtain ⟨ad, e, hc⟩ := Kd.at_int h (i : Int) (by omega) (by omega)
  exact ⟨ad, e, hc⟩

def of3 (G : Nat → Nat) (a : Int) : List Int → Nat → Nat
  | [] => G
  | b :: r => of3 (if a = b then G else up G a.toNat (sb (G a.toNat) b.toNat)) a r
def of2 (G : Nat → Nat) (x : List Int) : List Int → Nat → Nat
  | [] => G
  | a :: r => of2 (of3 G a x) x r
def of1 (G : Nat → Nat) : List (List Int) → Nat → Nat
  | [] => G
  | x :: r => of1 (of2 G x x) r
theorem of3_same (G : Nat → Nat) (a b : Nat) (h : a = b) (r : List Int) : of3 G (a : Int) ((b : Int) :: r) = of3 G (a : Int) r := by
  show of3 (if (a : Int) = (b : Int) then G else _) _ r = _
  rw [if_pos (by omega)]
theorem of3_ne (G : Nat → Nat) (a b : Nat) (h : ¬ a = b) (r : List Int) : of3 G (a : Int) ((b : Int) :: r) = of3 (up G a (sb (G a) b)) (a : Int) r := by
  show of3 (if (a : Int) = (b : Int) then G else _) _ r = _
  rw [if_neg (by omega)]
  rfl
/-- The graph of scopes. -/
def ofG (l : List (List Int)) : Nat → Nat := of1 (fun _ => 0) l
theorem gcells_one (G : Nat → Nat) : (gcells G).all (·.oneCell') = true := by simp [gcells, Value.oneCell']
set_option maxHeartbeats 400000 in
theorem store_arr {ops : Array Oper} {rest : List Oper} {o : Oper} {a : Act} {w : World} {Q : Exit → Act → World → Prop} (hgd : o.guard = none) (x y : Operand) (ho : o.op = .store 53 x y) (hd : o.dst = none)
    (g : Nat) (H G : Nat → Nat) (hx : a.eval x = .pointer (some ⟨g, 0, none⟩)) (hy : a.eval y = .agg (gcells H)) (hg : Arr w g G)
    (h : ∀ w1, Arr w1 g H → w.grownBy w1 (some g) → wpList Try.prog ops Q rest a w1) : wpList Try.prog ops Q (o :: rest) a w := by
  refine wpList_store_row hgd 53 x y ho g (gcells H) hx hy 53 (gcells G) hg.out (by kernel_rfl) rfl (gcells_one H) ?_
  rw [hd]
  refine h _ ⟨setRow_heap _ _ _ _ _ _ hg.out⟩ ⟨rfl, rfl, rfl, by rw [setRow_size]; exact Nat.le_refl _, fun k hk hne => setRow_other w g k _ (fun e => hne (by rw [e]))⟩
theorem load_arr {ops : Array Oper} {rest : List Oper} {o : Oper} {a : Act} {w : World} {Q : Exit → Act → World → Prop} (hgd : o.guard = none) (x : Operand) (ho : o.op = .load 53 x) (d : Tmp) (hd : o.dst = some d)
    (g : Nat) (G : Nat → Nat) (hx : a.eval x = .pointer (some ⟨g, 0, none⟩)) (hg : Arr w g G)
    (h : wpList Try.prog ops Q rest (a.put (some d) (.agg (gcells G))) w) : wpList Try.prog ops Q (o :: rest) a w := by
  refine wpList_load_row hgd 53 x ho g hx 53 (gcells G) (0, 0) _ hg.out Try.underlying53 rfl (by kernel_rfl) ?_
  rw [hd]
  exact h
theorem results_arr {fn : Func} {p : Tmp} (h : fn.results = #[.cell p 53]) (tmps : Array Value) (w : World) (g : Nat) (G : Nat → Nat)
    (hp : tmps.getD p undef = .pointer (some ⟨g, 0, none⟩)) (hg : Arr w g G) : (results fn tmps).run Try.prog w = .ok (.agg (gcells G)) w :=
  results_cell_row h tmps w g 53 (gcells G) (0, 0) _ hp hg.out Try.underlying53 rfl (by kernel_rfl)
structure OfI (w wr : World) (H : Nat → Nat) : Prop where
  arr : Arr wr (w.heap.size + 1) H
  res : Arr wr w.heap.size (fun _ => 0)
  bel : Below w.heap.size w wr
  lt : ∀ i, H i < 65536
theorem OfI.step {w wr : World} {H : Nat → Nat} (h : OfI w wr H) (a y : Nat) (ha : a < 16) (hy : y < 65536) : OfI w (wr.setCell ⟨w.heap.size + 1, a, none⟩ (.int .u32 (y : Int))).drew (up H a y) where
  arr := (h.arr.set a y ha).drew
  res := ⟨(Below.heap_setCell wr ⟨w.heap.size + 1, a, none⟩ _ w.heap.size (by show w.heap.size ≠ w.heap.size + 1; omega)).trans h.res.out⟩
  bel := (h.bel.setCell (by show w.heap.size ≤ w.heap.size + 1; omega) _).drew
  lt := up_lt h.lt hy a
theorem OfI.start (w : World) : OfI w ((w.alloc (.cells (gcells (fun _ => 0)) 53)).alloc (.cells (gcells (fun _ => 0)) 53)) (fun _ => 0) where
  arr := ⟨heap_alloc2_new w _ _⟩
  res := ⟨blk_alloc (blk_new w _) _⟩
  bel := ((Below.refl _ _).alloc (Nat.le_refl _) _).alloc (by simp) _
  lt := fun _ => by decide
theorem drop_getD {α : Type} (d : α) (l : List α) (k : Nat) (h : k < l.length) : l.drop k = l.getD k d :: l.drop (k + 1) := by
  rw [List.drop_eq_getElem_cons h, List.getD_eq_getElem?_getD, List.getElem?_eq_getElem h]
  rfl
theorem getD_mem {α : Type} (d : α) (l : List α) (k : Nat) (h : k < l.length) : l.getD k d ∈ l := by
  rw [List.getD_eq_getElem?_getD, List.getElem?_eq_getElem h]
  exact List.getElem_mem h
set_option maxHeartbeats 4000000 in
set_option maxRecDepth 100000 in
theorem of_calls (A : Option Addr) (c : Nat) (l : List (List Int)) (w : World) (hr : Kd.C kl w A l.length l) (hc : l.length ≤ c) (hv : ∀ x ∈ l, ∀ v ∈ x, 0 ≤ v ∧ v < 16) :
    Calls Try.prog 39 #[.slice A l.length c] w fun e w' => e = .returned (.agg (gcells (ofG l))) ∧ Below w.heap.size w w' := by
  have hmax := Kd.C_max hr
  have HR := Aside0.mk hr
  have HV := Aside0.mk hv
  clear hr hv
  go_enter Try.func39, Try.ntmps39
  go_wp2
  go_loopw [12] (fun s12 wr => ∃ k : Nat, ∃ H : Nat → Nat, k ≤ l.length ∧ s12 = .int .i64 (k : Int) ∧ Aside0 (of1 H (l.drop k) = ofG l) ∧ OfI w wr H) (fun s12 _ => (l.length - (intOf s12).toNat))
  case atStart => exact ⟨0, _, by omega, rfl, ⟨rfl⟩, OfI.start w⟩
  case round =>
    obtain ⟨k, H, hk, rfl, HE, HO⟩ := hrel
    by_cases hlt : k < l.length
    · have hkd : decide (k < l.length) = true := decide_eq_true hlt
      obtain ⟨ad, A0, c0, rfl, hx0, hc0, hC0⟩ := kl_at HR.out k hlt
      have hx := pw_cell_below HO.bel hx0
      clear hx0
      have hx0 := Aside0.mk (drop_getD [] l k hlt)
      have hxm := Aside0.mk (getD_mem [] l k hlt)
      have hV0 := Aside0.mk (HV.out _ hxm.out)
      generalize l.getD k [] = x at *
      have hC0m := Kd.C_max hC0
      have HC0 := Aside0.mk hC0
      have hT : Aside0 (of1 (of2 H x x) (l.drop (k + 1)) = ofG l) := ⟨by rw [← HE.out, hx0.out]; rfl⟩
      have hsz := HO.bel.size
      clear HE hx0 hxm hC0
      go_wp2
      go_loopw [18] (fun s18 wr => ∃ j : Nat, ∃ H : Nat → Nat, j ≤ x.length ∧ s18 = .int .i64 (j : Int) ∧ Aside0 (of1 (of2 H x (x.drop j)) (l.drop (k + 1)) = ofG l) ∧ OfI w wr H) (fun s18 _ => (x.length - (intOf s18).toNat))
      case atStart => exact ⟨0, _, by omega, rfl, hT, HO⟩
      case round =>
        clear hT HO hx hsz
        obtain ⟨j, H, hj, rfl, HE, HO⟩ := hrel
        by_cases hltj : j < x.length
        · have hkd2 : decide (j < x.length) = true := decide_eq_true hltj
          obtain ⟨ad2, rfl, hyw⟩ := kn_at HC0.out j hltj
          have hy := pw_cell_below HO.bel hyw
          clear hyw
          have hy0 := Aside0.mk (drop_getD 0 x j hltj)
          have hym := hV0.out _ (getD_mem 0 x j hltj)
          obtain ⟨a, ha⟩ := Int.eq_ofNat_of_zero_le hym.1
          rw [ha] at hym hy hy0
          have hya : a < 16 := by omega
          have hT : Aside0 (of1 (of2 (of3 H (a : Int) x) x (x.drop (j + 1))) (l.drop (k + 1)) = ofG l) := ⟨by rw [← HE.out, hy0.out]; rfl⟩
          clear hym ha hy0 HE
          go_wp2
          go_loopw [24] (fun s24 wr => ∃ i : Nat, ∃ H : Nat → Nat, i ≤ x.length ∧ s24 = .int .i64 (i : Int) ∧ Aside0 (of1 (of2 (of3 H (a : Int) (x.drop i)) x (x.drop (j + 1))) (l.drop (k + 1)) = ofG l) ∧ OfI w wr H) (fun s24 _ => (x.length - (intOf s24).toNat))
          case atStart => exact ⟨0, _, by omega, rfl, hT, HO⟩
          case round =>
            clear hT HO hy
            obtain ⟨i, H, hi, rfl, HE, HO⟩ := hrel
            by_cases hlti : i < x.length
            · have hkd3 : decide (i < x.length) = true := decide_eq_true hlti
              obtain ⟨ad3, had, hzw⟩ := kn_at HC0.out i hlti
              obtain rfl := Option.some.inj had
              have hz := pw_cell_below HO.bel hzw
              clear hzw
              have hz0 := Aside0.mk (drop_getD 0 x i hlti)
              have hzm := hV0.out _ (getD_mem 0 x i hlti)
              obtain ⟨b, hb⟩ := Int.eq_ofNat_of_zero_le hzm.1
              rw [hb] at hzm hz hz0
              have hzb : b < 16 := by omega
              have hmb := mod32 hzb
              have hca := HO.arr.cell a hya
              have hfa := HO.arr.thaw a
              have hor := or_pow (H a) b (Nat.lt_trans (HO.lt a) (by decide)) (by omega)
              by_cases hab : a = b
              · have hT : Aside0 (of1 (of2 (of3 H (a : Int) (x.drop (i + 1))) x (x.drop (j + 1))) (l.drop (k + 1)) = ofG l) := ⟨by rw [← HE.out, hz0.out, of3_same H a b hab]⟩
                have hq : ((a : Int) != (b : Int)) = false := by rw [hab]; simp
                clear hzm hb hz0 HE hab
                go_wp2
                go_roundw
                case rel => exact ⟨i + 1, H, by omega, by go_num, hT, HO⟩
                case measure => simp [intOf]; omega
              · have hT : Aside0 (of1 (of2 (of3 (up H a (sb (H a) b)) (a : Int) (x.drop (i + 1))) x (x.drop (j + 1))) (l.drop (k + 1)) = ofG l) := ⟨by rw [← HE.out, hz0.out, of3_ne H a b hab]⟩
                have hq : ((a : Int) != (b : Int)) = true := by rw [bne_iff_ne]; omega
                have HOn := HO.step a (sb (H a) b) hya (sb_lt (HO.lt a) hzb)
                clear hzm hb hz0 HE hab
                go_wp2
                go_region
                go_wp2
                go_roundw
                case rel => exact ⟨i + 1, _, by omega, by go_num, hT, HOn⟩
                case measure => simp [intOf]; omega
            · obtain rfl : i = x.length := by omega
              go_wp2
              go_roundw
              case rel => exact ⟨j + 1, H, by omega, by go_num, ⟨by rw [← HE.out, List.drop_length]; rfl⟩, HO⟩
              case measure => simp [intOf]; omega
        · obtain rfl : j = x.length := by omega
          go_wp2
          go_roundw
          case rel => exact ⟨k + 1, H, by omega, by go_num, ⟨by rw [← HE.out, List.drop_length]; rfl⟩, HO⟩
          case measure => simp [intOf]; omega
    · obtain rfl : k = l.length := by omega
      have hend : ofG l = H := by rw [← HE.out, List.drop_length]; rfl
      go_wp2_with (first | ((with_reducible refine gate_dst (N := 41) rfl ?_); refine load_arr rfl (.tmp 3) rfl 41 rfl (w.heap.size + 1) H rfl HO.arr ?_) | ((with_reducible refine gate_store (t := 53) (p := 2) (v := .tmp 41) rfl ?_); refine store_arr rfl (.tmp 2) (.tmp 41) rfl rfl w.heap.size H (fun _ => 0) rfl rfl HO.res ?_; intro w2 hA2 hG2))
      refine bodyPost_ret (results_arr rfl _ _ w.heap.size H rfl hA2) rfl ?_
      rw [hend]
      exact ⟨rfl, HO.bel.grown hG2 HO.bel.size (fun k hk => by cases hk; exact Nat.le_refl _)⟩
end Go.Proofs.Ytnnaakinchophaa.Ord
