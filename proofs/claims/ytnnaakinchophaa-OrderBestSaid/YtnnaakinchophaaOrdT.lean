/- The library's MinFunc and DeleteFunc, and the closures of the program's Lower, walked; conditions as written. -/
import Derived.Test.YtnnaakinchophaaOrdXZ
import Derived.Lib.SliceRun
import Derived.Test.YtnnaakinchophaaOrdR
namespace Go.Proofs.Ytnnaakinchophaa.Ord
section
set_option linter.unusedVariables false
set_option linter.unusedSimpArgs false
open Go.RowKit Go.Proofs.YtnnaakinchophaaW.PrintWords Go.Proofs.YtnnaakinchophaaW.PrintLast Go.Proofs.YtnnaakinchophaaW.PrintMore
/-- The first least of several. -/
def minG (f : Int → Int) : Int → List Int → Int
  | m, [] => m
  | m, x :: r => minG f (if f x < f m then x else m) r
set_option maxHeartbeats 1000000 in
theorem minFunc_calls (f : Int → Int) (g : Nat) (lb : Array Value) (eg : ∀ args w, (callFunc g args).run Try.prog w = .ok (.enter g args) w) (A : Option Addr) (c : Nat) (xs : List Int) (w : World)
    (hr : Kd.C (Kd.int .i64) w A xs.length xs) (hne : 0 < xs.length) (hp : ∀ q, ∀ x ∈ xs, ∀ y ∈ xs, Calls Try.prog g (#[.int .i64 x, .int .i64 y] ++ lb) (w.drewN q) fun e w' => e = .returned (.int .i64 (f x - f y)) ∧ Drawn0 (w.drewN q) w') :
    Calls Try.prog 59 #[.slice A xs.length c, .func (.func g) #[] lb] w fun e w' => e = .returned (.int .i64 (minG f (xs.getD 0 0) (xs.drop 1))) ∧ Drawn0 w w' := by
  have hmax := Kd.C_max hr
  have HR := Aside0.mk hr
  have HP := Aside0.mk hp
  have hlen : decide ((xs.length : Int) < 1) = false := decide_eq_false (by omega)
  obtain ⟨ad0, hA0, hx0⟩ := kn_at hr 0 hne
  have hm0 := getD_mem 0 xs 0 hne
  have hx0' : w.cell? ad0 = some (.int .i64 (xs.getD 0 0)) := hx0
  clear hr hp hx0
  subst hA0
  generalize hh : xs.getD 0 0 = h0 at *
  clear hh
  go_enter Try.func59, Try.ntmps59
  go_wp2
  go_loopw [5, 6] (fun s5 s6 wr => ∃ k q : Nat, ∃ m : Int, 1 ≤ k ∧ k ≤ xs.length ∧ s5 = .int .i64 m ∧ s6 = .int .i64 (k : Int) ∧ Aside0 (m ∈ xs) ∧ Aside0 (minG f m (xs.drop k) = minG f h0 (xs.drop 1)) ∧ wr = w.drewN q) (fun _ s6 _ => (xs.length - (intOf s6).toNat))
  case atStart => exact ⟨1, 0, h0, by omega, by omega, rfl, rfl, ⟨hm0⟩, ⟨rfl⟩, rfl⟩
  case round =>
    obtain ⟨k, q, m, hk1, hk, rfl, rfl, HM, HE, rfl⟩ := hrel
    by_cases hlt : k < xs.length
    · obtain ⟨ad, had, hx⟩ := kn_at (Kd.C_drewN HR.out q) k hlt
      obtain rfl : ad0 = ad := by injection had
      have hcall := HP.out q _ (getD_mem 0 xs k hlt) m HM.out
      have hdrop : xs.drop k = xs.getD k 0 :: xs.drop (k + 1) := by
        rw [List.drop_eq_getElem_cons hlt, List.getD_eq_getElem?_getD, List.getElem?_eq_getElem hlt]
        rfl
      have hxm := getD_mem 0 xs k hlt
      generalize hxe : xs.getD k 0 = x at *
      clear hxe
      have HC := Aside0.mk hcall
      have HX := Aside0.mk hxm
      have he := HE.out
      rw [hdrop] at he
      cases hq : decide (f x < f m) with
      | true =>
        have hq1 := of_decide_eq_true hq
        have hqd : decide (f x - f m < 0) = true := decide_eq_true (by omega)
        have HE2 : Aside0 (minG f x (xs.drop (k + 1)) = minG f h0 (xs.drop 1)) := ⟨by
          rw [← he]
          show _ = minG f (if f x < f m then x else m) _
          rw [if_pos hq1]⟩
        clear hcall hxm he hdrop hq hq1 HE
        go_wp2_with (go_at_fn g; refine HC.out.mono ?_; rintro e w' ⟨rfl, ⟨⟨q2, rfl⟩⟩⟩; have hx2 : (w.drewN (q + q2)).cell? (ad0.add k) = some (.int .i64 x) := hx)
        go_roundw
        case rel => exact ⟨k + 1, q + q2, x, by omega, by omega, rfl, by go_num, HX, HE2, by first | rfl | exact (World.drewN_add _ _ _).symm⟩
        case measure => simp [intOf]; omega
      | false =>
        have hq1 := of_decide_eq_false hq
        have hqd : decide (f x - f m < 0) = false := decide_eq_false (by omega)
        have HE2 : Aside0 (minG f m (xs.drop (k + 1)) = minG f h0 (xs.drop 1)) := ⟨by
          rw [← he]
          show _ = minG f (if f x < f m then x else m) _
          rw [if_neg hq1]⟩
        clear hcall hxm he hdrop hq hq1 HE
        go_wp2_with (go_at_fn g; refine HC.out.mono ?_; rintro e w' ⟨rfl, ⟨⟨q2, rfl⟩⟩⟩)
        go_roundw
        case rel => exact ⟨k + 1, q + q2, m, by omega, by omega, rfl, by go_num, HM, HE2, by first | rfl | exact (World.drewN_add _ _ _).symm⟩
        case measure => simp [intOf]; omega
    · obtain rfl : k = xs.length := by omega
      have HI : Aside0 (m = minG f h0 (xs.drop 1)) := ⟨by
        rw [← HE.out, List.drop_length]
        rfl⟩
      go_wp2
      go_ret
      exact ⟨by rw [← HI.out]; rfl, ⟨⟨q, rfl⟩⟩⟩
set_option maxHeartbeats 400000 in
theorem lower1_calls (g a b : Nat) (H : Nat → Nat) (w : World) (hg : Arr w g H) (ha : a < 16) (hb : b < 16) (hH : ∀ i, H i < 65536) :
    Calls Try.prog 60 #[.int .i64 (a : Int), .int .i64 (b : Int), .pointer (some ⟨g, 0, none⟩)] w fun e w' => e = .returned (.int .i64 (cfD H a - cfD H b)) ∧ Drawn0 w w' := by
  have H1 := Aside0.mk (degree_calls g a H w hg ha (hH a))
  have H2 := Aside0.mk (fun n => degree_calls g b H (w.drewN n) (hg.drewN n) hb (hH b))
  have h3 : ∀ i, popc (H i) ≤ 16 := fun i => by
    unfold popc
    exact Nat.le_trans (List.length_filter_le _ _) (by simp)
  have ha3 := h3 a
  have hb3 := h3 b
  unfold cfD
  clear h3
  go_enter Try.func60, Try.ntmps60
  go_wp2_with fail
  refine H1.out.mono ?_
  rintro e w1 ⟨rfl, ⟨⟨m, rfl⟩⟩⟩
  go_wp2_with fail
  refine (H2.out m).mono ?_
  rintro e w1 ⟨rfl, ⟨⟨m2, rfl⟩⟩⟩
  go_wp2
  go_ret
  exact ⟨by go_num, ⟨⟨m + m2, by first | rfl | exact (World.drewN_add _ _ _).symm⟩⟩⟩
set_option maxHeartbeats 400000 in
theorem lower2_calls (x v : Int) (B : Nat) (w : World) (hc : w.cell? ⟨B, 0, none⟩ = some (.int .i64 v)) :
    Calls Try.prog 63 #[.int .i64 x, .pointer (some ⟨B, 0, none⟩)] w fun e w' => e = .returned (.bool (x == v)) ∧ w' = w := by
  go_enter Try.func63, Try.ntmps63
  go_wp2
  go_ret
  exact ⟨rfl, rfl⟩
end
section
set_option linter.unusedVariables false
set_option linter.unusedSimpArgs false
open Go.RowKit Go.Proofs.YtnnaakinchophaaW.PrintWords Go.Proofs.YtnnaakinchophaaW.PrintLast Go.Proofs.YtnnaakinchophaaW.PrintMore
/-- The row while the k-th goes, j being looked at. -/
def dkF (d : List Int) (k j : Nat) : List Int := (d.eraseIdx k).take (j - 1) ++ d.drop (j - 1)
theorem dk_len (d : List Int) (k j : Nat) (hk : k < d.length) (hj : j ≤ d.length) (hkj : k < j) : (dkF d k j).length = d.length := by
  unfold dkF
  rw [List.length_append, List.length_take, List.length_drop, List.length_eraseIdx_of_lt hk]
  omega
theorem dk_start (d : List Int) (k : Nat) (hk : k < d.length) : dkF d k (k + 1) = d := by
  unfold dkF
  rw [Nat.add_sub_cancel, List.eraseIdx_eq_take_drop_succ, List.take_append_of_le_length (by rw [List.length_take]; omega), List.take_take, Nat.min_self, List.take_append_drop]
theorem dk_at (d : List Int) (k j : Nat) (hk : k < d.length) (hj : j < d.length) (hkj : k < j) : (dkF d k j).getD j 0 = d.getD j 0 := by
  unfold dkF
  have h1 : ((d.eraseIdx k).take (j - 1)).length = j - 1 := by
    rw [List.length_take, List.length_eraseIdx_of_lt hk]
    omega
  rw [List.getD_eq_getElem?_getD, List.getElem?_append_right (by omega), h1, List.getElem?_drop, ← List.getD_eq_getElem?_getD]
  congr 1
  omega
theorem dk_get (d : List Int) (k j i : Nat) (hk : k < d.length) (hj : j ≤ d.length) (hkj : k < j) : (dkF d k j)[i]? = if i < j - 1 then (d.eraseIdx k)[i]? else d[i]? := by
  have he := List.length_eraseIdx_of_lt hk
  have h1 : ((d.eraseIdx k).take (j - 1)).length = j - 1 := by
    rw [List.length_take, he]
    omega
  unfold dkF
  split
  · rename_i h
    rw [List.getElem?_append_left (by omega), List.getElem?_take, if_pos h]
  · rename_i h
    rw [List.getElem?_append_right (by omega), h1, List.getElem?_drop]
    congr 1
    omega
theorem dk_step (d : List Int) (k j : Nat) (hk : k < d.length) (hj : j < d.length) (hkj : k < j) : (dkF d k j).set (j - 1) (d.getD j 0) = dkF d k (j + 1) := by
  have hl := dk_len d k j hk (by omega) hkj
  have he := List.length_eraseIdx_of_lt hk
  apply List.ext_getElem?
  intro i
  rw [List.getElem?_set, dk_get d k j i hk (by omega) hkj, dk_get d k (j + 1) i hk (by omega) (by omega), hl, Nat.add_sub_cancel]
  by_cases e : j - 1 = i
  · subst e
    rw [if_pos rfl, if_pos (by omega), if_pos (by omega), List.getElem?_eraseIdx_of_ge (by omega), show j - 1 + 1 = j by omega, List.getD_eq_getElem?_getD, List.getElem?_eq_getElem hj]
    rfl
  · rw [if_neg e]
    by_cases h : i < j - 1
    · rw [if_pos h, if_pos (by omega)]
    · rw [if_neg h, if_neg (by omega)]
theorem dk_end (d : List Int) (k : Nat) (hk : k < d.length) (y : Int) : ((dkF d k d.length).set (d.length - 1) y).take (d.length - 1) = d.eraseIdx k := by
  have he := List.length_eraseIdx_of_lt hk
  rw [List.take_set_of_le (by omega)]
  unfold dkF
  rw [List.take_append_of_le_length (by rw [List.length_take]; omega), List.take_take, Nat.min_self, List.take_of_length_le (by omega)]
theorem grown_self (w : World) (r : Option Nat) : w.grownBy w r := ⟨rfl, rfl, rfl, Nat.le_refl _, fun _ _ _ => rfl⟩
theorem zero3 (w : World) : (zeroValue 3).run Try.prog w = .ok (.int .i64 0) w := by kernel_rfl
set_option maxHeartbeats 4000000 in
set_option maxRecDepth 100000 in
theorem deleteFunc_calls (p : Int → Bool) (fn : Nat) (lb : Array Value) (eg : ∀ args w, (callFunc fn args).run Try.prog w = .ok (.enter fn args) w) (g cap base : Nat) (d : List Int) (k : Nat) (w : World)
    (hr : Kd.R (Kd.int .i64) 3 w base (fun _ => True) (.slice (some ⟨g, 0, none⟩) d.length cap) d) (hk : k < d.length) (h1 : p (d.getD k 0) = true) (h0 : ∀ j, j < d.length → j ≠ k → p (d.getD j 0) = false)
    (hp : ∀ W, w.grownBy W (some g) → ∀ x, Calls Try.prog fn (#[.int .i64 x] ++ lb) W fun e w' => e = .returned (.bool (p x)) ∧ w' = W) :
    Calls Try.prog 62 #[.slice (some ⟨g, 0, none⟩) d.length cap, .func (.func fn) #[] lb] w fun e w' => e = .returned (.slice (some ⟨g, 0, none⟩) (d.length - 1) cap) ∧ Kd.R (Kd.int .i64) 3 w' base (fun _ => True) (.slice (some ⟨g, 0, none⟩) (d.length - 1) cap) (d.eraseIdx k) ∧ w.grownBy w' (some g) := by
  have hcap : d.length ≤ cap := (Kd.R_reads' hr).2.1
  have hmax := Kd.C_max (Kd.R_reads' hr).2.2
  have HI := Aside0.mk (indexFunc_int p fn lb eg (some ⟨g, 0, none⟩) cap d w (Kd.R_reads' hr).2.2 (fun x _ => hp w (grown_self w _) x))
  rw [idxF_at p 0 d k hk (fun j hj => h0 j (by omega) (by omega)) h1] at HI
  have HR := Aside0.mk hr
  have HP := Aside0.mk hp
  have HF := Aside0.mk h0
  have hne1 : ((k : Int) == -1) = false := beq_eq_false_iff_ne.2 (by omega)
  clear hr hp h0 h1
  go_enter Try.func62, Try.ntmps62
  go_wp2_with (go_at_call 66; refine HI.out.mono ?_; rintro e w' ⟨rfl, rfl⟩)
  go_loopw [5, 6] (fun s5 s6 wr => ∃ i j : Nat, k < j ∧ j ≤ d.length ∧ i + 1 = j ∧ s5 = .int .i64 (i : Int) ∧ s6 = .int .i64 (j : Int) ∧ Aside0 (Kd.R (Kd.int .i64) 3 wr base (fun _ => True) (.slice (some ⟨g, 0, none⟩) d.length cap) (dkF d k j)) ∧ Aside0 (w'.grownBy wr (some g))) (fun _ s6 _ => (d.length - (intOf s6).toNat))
  case atStart => exact ⟨k, k + 1, by omega, by omega, rfl, rfl, by go_num, ⟨by rw [dk_start d k hk]; exact HR.out⟩, ⟨grown_self _ _⟩⟩
  case round =>
    obtain ⟨i, j, hkj, hj, hij, rfl, rfl, HRk, HG⟩ := hrel
    by_cases hlt : j < d.length
    · have hcj := Kd.R_celln 0 HRk.out (j : Int) (by omega) (by omega)
      have hci := Kd.R_celln 0 HRk.out (i : Int) (by omega) (by omega)
      rw [Int.toNat_natCast] at hcj hci
      obtain ⟨cj, -⟩ := hcj
      obtain ⟨ci, fi⟩ := hci
      have hrd : rdOf 0 (dkF d k j) (j : Int) = d.getD j 0 := by
        rw [← dk_at d k j hk hlt hkj]
        unfold rdOf
        simp
      rw [hrd] at cj
      have hput := Kd.R_putg HRk.out (i : Int) (d.getD j 0)
      rw [Int.toNat_natCast, show i = j - 1 by omega, dk_step d k j hk hlt hkj, ← show i = j - 1 by omega] at hput
      have hcall := HP.out wr HG.out (d.getD j 0)
      rw [HF.out j hlt (by omega)] at hcall
      generalize d.getD j 0 = x at *
      generalize rdOf 0 (dkF d k j) (i : Int) = y at *
      have HC := Aside0.mk hcall
      have HPut := Aside0.mk hput
      clear hcall hput hrd
      go_wp2_with (go_at_fn fn; refine HC.out.mono ?_; rintro e w'' ⟨rfl, rfl⟩)
      go_roundw
      case rel => exact ⟨i + 1, j + 1, by omega, by omega, by omega, by go_num, by go_num, ⟨HPut.out.1⟩, ⟨HG.out.trans HPut.out.2⟩⟩
      case measure => simp [intOf]; omega
    · obtain rfl : j = d.length := by omega
      have hci := Kd.R_celln 0 HRk.out (i : Int) (by omega) (by omega)
      rw [Int.toNat_natCast] at hci
      obtain ⟨ci, fi⟩ := hci
      have hput := Kd.R_putg HRk.out (i : Int) 0
      rw [Int.toNat_natCast] at hput
      have hfin := Kd.R_take hput.1 (m := i) (by rw [List.length_set, dk_len d k _ hk (by omega) hkj]; omega)
      have hend := dk_end d k hk 0
      rw [show d.length - 1 = i by omega] at hend
      rw [hend] at hfin
      have hcl : ∀ ty, (Builtin.clear_ #[25] ty #[.slice (some ⟨g, i, none⟩) (d.length - i) (cap - i)]).run Try.prog wr = .ok (.tuple #[]) (wr.setCell ⟨g, i, none⟩ (.int .i64 0)) := fun ty => by
        have h2 : ∀ t, t < d.length - i → (wr.cell? ⟨g, i + t, none⟩).isSome = true := fun t ht => by
          obtain rfl : t = 0 := by omega
          rw [Nat.add_zero, ci]
          rfl
        have h3 : ∀ t, t < d.length - i → wr.frozen? ⟨g, i + t, none⟩ = false := fun t ht => by
          obtain rfl : t = 0 := by omega
          rw [Nat.add_zero, fi]
        have h := Lib.run_clear_slice wr 25 3 ty (.int .i64 0) Try.underlying25 zero3 rfl rfl g i (d.length - i) (cap - i) (by omega) h2 h3
        rw [h, show d.length - i = 1 by omega]
        rfl
      have HFin := Aside0.mk (And.intro hfin hput.2)
      have hiD : d.length - 1 = i := by omega
      clear hput hfin hend
      go_wp2_with (simp only [hcl])
      go_ret
      exact ⟨by rw [hiD]; first | rfl | simp, by rw [hiD]; exact HFin.out.1, HG.out.trans HFin.out.2⟩
end
section
set_option linter.unusedVariables false
set_option linter.unusedSimpArgs false
open Go.RowKit Go.Proofs.YtnnaakinchophaaW.PrintWords Go.Proofs.YtnnaakinchophaaW.PrintLast Go.Proofs.YtnnaakinchophaaW.PrintMore
/-- The first variable of least degree. -/
def lwV (H : Nat → Nat) (l : List Int) : Int := minG (fun x => cfD H x.toNat) (l.getD 0 0) (l.drop 1)
/-- What Lower's loop says. -/
def lwL : Nat → (Nat → Nat) → List Int → Int → Int
  | 0, _, _, w => w
  | m + 1, H, l, w => lwL m (cutF H (lwV H l).toNat) (l.erase (lwV H l)) (mx w (cfD H (lwV H l).toNat))
def idL (N : Nat) : List Int := (List.range N).map fun j : Nat => (j : Int)
/-- What Lower says. -/
def lowerF (n : Int) (l : List (List Int)) : Int × Int := if rightF n l then (lwL n.toNat (ofG l) (idL n.toNat) 0, 0) else (0, 1)
theorem idL_succ (N : Nat) : idL (N + 1) = idL N ++ [(N : Int)] := by
  unfold idL
  rw [List.range_succ, List.map_append]
  rfl
theorem idL_len (N : Nat) : (idL N).length = N := by simp [idL]
theorem idL_mem {N : Nat} {x : Int} : x ∈ idL N ↔ 0 ≤ x ∧ x < (N : Int) := by
  unfold idL
  rw [List.mem_map]
  constructor
  · rintro ⟨j, hj, rfl⟩
    have := List.mem_range.1 hj
    omega
  · rintro ⟨h1, h2⟩
    exact ⟨x.toNat, List.mem_range.2 (by omega), by omega⟩
theorem idL_nodup (N : Nat) : (idL N).Nodup := by
  unfold idL
  rw [List.nodup_iff_pairwise_ne, List.pairwise_map]
  exact (List.nodup_iff_pairwise_ne.1 List.nodup_range).imp fun h e => h (by omega)
theorem minG_mem (f : Int → Int) : ∀ (l : List Int) (m : Int), minG f m l = m ∨ minG f m l ∈ l
  | [], m => Or.inl rfl
  | x :: r, m => by
    show minG f (if f x < f m then x else m) r = m ∨ minG f (if f x < f m then x else m) r ∈ x :: r
    rcases minG_mem f r (if f x < f m then x else m) with h | h
    · split at h
      · rename_i hc
        rw [if_pos hc, h]
        exact Or.inr List.mem_cons_self
      · rename_i hc
        rw [if_neg hc, h]
        exact Or.inl rfl
    · exact Or.inr (List.mem_cons_of_mem _ h)
theorem lwV_mem (H : Nat → Nat) (l : List Int) (hl : 0 < l.length) : lwV H l ∈ l := by
  unfold lwV
  rcases minG_mem (fun x => cfD H x.toNat) (l.drop 1) (l.getD 0 0) with h | h
  · rw [h]
    exact getD_mem 0 l 0 hl
  · exact List.mem_of_mem_drop h
theorem GrI.cut_ {w wr w6 : World} {g v : Nat} {H : Nat → Nat} {s : Value} {out : List Int} (h : GrI w wr g H s out) (hA : Arr w6 g (cutF H v)) (hG : wr.grownBy w6 (some g)) : GrI w w6 g (cutF H v) s out :=
  ⟨hA, Kd.R_mono (Kd.R_grown (Kd.R_types h.row h.arr.out int_types53) hG (fun q hq he => hq.2 (Option.some.inj he))) (fun _ _ => trivial), h.bel.grown hG h.bel.size (fun k hk => by cases hk; exact h.base), h.base, cutF_lt h.lt v⟩
theorem GrI.del {w wr w6 : World} {g q : Nat} {H : Nat → Nat} {s s2 : Value} {out out2 : List Int} (h : GrI w wr g H s out) (hq : w.heap.size ≤ q) (hqg : q ≠ g) (ho : Kd.R (Kd.int .i64) 3 w6 w.heap.size (fun _ => True) s2 out2) (hG : wr.grownBy w6 (some q)) : GrI w w6 g H s2 out2 :=
  ⟨⟨(hG.block _ (blk_lt h.arr.out) (fun he => hqg (Option.some.inj he).symm)).trans h.arr.out⟩, ho, h.bel.grown hG h.bel.size (fun k hk => by cases hk; exact hq), h.base, h.lt⟩
theorem eg60 : ∀ args w, (callFunc 60 args).run Try.prog w = .ok (.enter 60 args) w := enters_of Try.func60 (by kernel_rfl) rfl
theorem eg63 : ∀ args w, (callFunc 63 args).run Try.prog w = .ok (.enter 63 args) w := enters_of Try.func63 (by kernel_rfl) rfl
set_option maxHeartbeats 4000000 in
set_option maxRecDepth 100000 in
theorem lower_calls (n : Int) (A : Option Addr) (c : Nat) (l : List (List Int)) (w : World) (hr : Kd.C kl w A l.length l) (hc : l.length ≤ c) :
    Calls Try.prog 36 #[.int .i64 n, .slice A l.length c] w fun e w' => e = .returned (.tuple #[.int .i64 (lowerF n l).1, .int .i64 (lowerF n l).2]) ∧ Below w.heap.size w w' := by
  have HC := Aside0.mk (right_calls n A c l w hr hc)
  cases hR : rightF n l with
  | false =>
    have hE : lowerF n l = (0, 1) := by unfold lowerF; rw [hR]; rfl
    rw [hR] at HC
    rw [hE]
    clear hr hR hE
    go_enter Try.func36, Try.ntmps36
    go_wp2_with fail
    refine HC.out.mono ?_
    rintro e w1 ⟨rfl, hb⟩
    have HB := Aside0.mk hb
    clear hb
    go_wp2
    go_ret2
    exact ⟨rfl, HB.out⟩
  | true =>
    have hT := rightF_true hR
    obtain ⟨N, rfl⟩ := Int.eq_ofNat_of_zero_le hT.1
    have hN : N ≤ 16 := by omega
    have hv : ∀ x ∈ l, ∀ v ∈ x, 0 ≤ v ∧ v < 16 := fun x hx v hv => by
      have := (hT.2.2.2 x hx).2 v hv
      omega
    rw [hR] at HC
    have HV := Aside0.mk hv
    have HR := Aside0.mk hr
    have hE : lowerF N l = (lwL N (ofG l) (idL N) 0, 0) := by unfold lowerF; rw [hR]; rfl
    rw [hE]
    clear hr hR hv hT hE
    go_enter Try.func36, Try.ntmps36
    go_wp2_with fail
    refine HC.out.mono ?_
    rintro e w1 ⟨rfl, hb⟩
    have HB := Aside0.mk hb
    have HR1 := Aside0.mk (Kd.C_below HR.out hb)
    clear hb HR HC
    go_wp2_with fail
    refine (of_calls A c l w1 HR1.out hc HV.out).mono ?_
    rintro e w3 ⟨rfl, hb⟩
    have HB2 := Aside0.mk (below_step HB.out hb)
    clear hb HB HR1
    have hlt := ofG_lt l HV.out
    generalize hG : ofG l = G at *
    have HGe := Aside0.mk hG
    clear hG
    have hA2 : Arr (w3.alloc (.cells (gcells fun _ => 0) 53)) w3.heap.size (fun _ => 0) := ⟨blk_new w3 _⟩
    go_wp2_with ((with_reducible refine gate_store (t := 53) (p := 6) (v := .tmp 16) rfl ?_); refine store_arr rfl (.tmp 6) (.tmp 16) rfl rfl w3.heap.size G (fun _ => 0) rfl rfl hA2 ?_; intro w4 hA3 hG3)
    have hb3 : Below w.heap.size w w4 := ((HB2.out.alloc HB2.out.size _)).grown hG3 (Nat.le_trans HB2.out.size (by simp)) (fun k hk => by cases hk; exact HB2.out.size)
    have HI0 : GrI w (w4.alloc (.cells #[] 3)) w3.heap.size G (.slice (some ⟨w4.heap.size, 0, none⟩) 0 0) (idL 0) := ⟨hA3.alloc _, Kd.R_of_own (by
      have h := own_lit w4 w.heap.size 3 .i64 [] hb3.size (by decide)
      exact h) (fun _ _ => trivial), hb3.alloc hb3.size _, HB2.out.size, hlt⟩
    clear hA2 hA3 hG3 hb3 hlt
    go_loopw [8, 19] (fun s8 s19 wr => ∃ k : Nat, k ≤ N ∧ s19 = .int .i64 (k : Int) ∧ GrI w wr w3.heap.size G s8 (idL k)) (fun _ s19 _ => (N - (intOf s19).toNat))
    case atStart => exact ⟨0, by omega, rfl, HI0⟩
    case round =>
      clear HI0
      obtain ⟨k, hk, rfl, HI⟩ := hrel
      have hil := idL_len k
      obtain ⟨A9, c9, rfl, hc9, hC9⟩ := Kd.R_reads HI.row
      by_cases hlt : k < N
      · have hkd : decide (k < N) = true := decide_eq_true hlt
        clear hC9
        go_wp2_with (at_builtin; refine Kd.R_append (Kd.int .i64) (w0 := w) w.heap.size rfl (.tmp 22) (.tmp 24) 25 3 (.int .i64 0) 8 rfl Try.underlying25 info3 rfl (by decide) (by omega) _ (idL k) (k : Int) [.int .i64 (k : Int)] (fun _ => True) (fun _ => False) rfl rfl ?aP (fun _ hk => hk.elim) ?aF ?aO ?aB ?aS ?aL ?_; (case aP => exact rfl); (case aF => exact (fun _ _ => trivial)); (case aO => exact HI.row); (case aB => exact HI.bel); (case aS => exact HI.bel.size); (case aL => rw [hil]; omega); intro v1 w7 ho hb1 hg1 hat1; have HI1 := HI.push ho hb1 hg1; rw [← idL_succ] at HI1; clear ho hb1 hg1 hat1 HI)
        go_roundw
        case rel => exact ⟨k + 1, by omega, by go_num, HI1⟩
        case measure => simp [intOf]; omega
      · obtain rfl : k = N := by omega
        generalize hid : idL k = ids at *
        have HID := Aside0.mk hid
        have HL0 : Aside0 (ids.Nodup ∧ ∀ x ∈ ids, 0 ≤ x ∧ x < 16) := ⟨by rw [← hid]; exact idL_nodup k, fun x hx => by rw [← hid] at hx; have := idL_mem.1 hx; omega⟩
        clear hid
        go_wp2
        go_loopw [7, 8] (fun s7 s8 wr => ∃ H : Nat → Nat, ∃ lf : List Int, ∃ mst : Int, s7 = .int .i64 mst ∧ Aside0 (lf.Nodup ∧ ∀ x ∈ lf, 0 ≤ x ∧ x < 16) ∧ Aside0 (lwL lf.length H lf mst = lwL k G ids 0) ∧ GrI w wr w3.heap.size H s8 lf) (fun _ s8 _ => (match s8 with | .slice _ l _ => l | _ => 0))
        case atStart => exact ⟨G, ids, 0, rfl, HL0, ⟨by rw [hil]⟩, HI⟩
        case round =>
          clear HI
          obtain ⟨H, lf, mst, rfl, HL, HE, HI⟩ := hrel
          by_cases hlt : 0 < lf.length
          · obtain ⟨q, cap, rfl, hwq, hq, cells, hcells⟩ := Kd.R_form HI.row hlt
            have hqg := (types_ne HI.arr.out hcells (by decide)).1
            obtain ⟨_, hcap, hC⟩ := Kd.R_reads' HI.row
            have hmax := Kd.C_max hC
            have H1 := Aside0.mk (minFunc_calls (fun x => cfD H x.toNat) 60 #[.pointer (some ⟨w3.heap.size, 0, none⟩)] eg60 (some ⟨q, 0, none⟩) cap lf wr hC hlt (fun m x hx y hy => by
              obtain ⟨a, rfl⟩ := Int.eq_ofNat_of_zero_le (HL.out.2 x hx).1
              obtain ⟨b, rfl⟩ := Int.eq_ofNat_of_zero_le (HL.out.2 y hy).1
              have ha := (HL.out.2 _ hx).2
              have hb := (HL.out.2 _ hy).2
              exact lower1_calls w3.heap.size a b H (wr.drewN m) (HI.arr.drewN m) (by omega) (by omega) HI.lt))
            have hvm := lwV_mem H lf hlt
            have hst : lwL (lf.length - 1) (cutF H (lwV H lf).toNat) (lf.erase (lwV H lf)) (mx mst (cfD H (lwV H lf).toNat)) = lwL k G ids 0 := by
              rw [← HE.out, show lf.length = (lf.length - 1) + 1 by omega]
              rfl
            have e1 : minG (fun x => cfD H x.toNat) (lf.getD 0 0) (lf.drop 1) = lwV H lf := rfl
            rw [e1] at H1
            generalize lwV H lf = v at *
            obtain ⟨v, rfl⟩ := Int.eq_ofNat_of_zero_le (HL.out.2 v hvm).1
            have hv16 : v < 16 := by have := (HL.out.2 _ hvm).2; omega
            rw [Int.toNat_natCast] at hst
            have hlen1 : (lf.erase (v : Int)).length = lf.length - 1 := List.length_erase_of_mem hvm
            rw [← hlen1, show cfD H v = (popc (H v) : Int) from rfl] at hst
            obtain ⟨M, hM⟩ : ∃ M : Int, mx mst (popc (H v) : Int) = M := ⟨_, rfl⟩
            have hM0 : (if mst < (popc (H v) : Int) then (popc (H v) : Int) else mst) = M := hM
            rw [hM] at hst
            have HST := Aside0.mk hst
            have HVM := Aside0.mk hvm
            clear hst hvm e1 hC hcells HE
            have hgt : decide (0 < (lf.length : Int)) = true := decide_eq_true (by omega)
            go_wp2_with fail
            refine H1.out.mono ?_
            rintro e w5 ⟨rfl, hD⟩
            obtain ⟨⟨m5, hm5⟩⟩ := hD
            have HI5 : GrI w w5 w3.heap.size H (.slice (some ⟨q, 0, none⟩) lf.length cap) lf := by
              rw [hm5]
              exact HI.below (pw_below_drewN (Below.refl _ _) m5)
            have hq5 : q < w5.heap.size := by rw [hm5]; exact hq
            clear hm5 H1 HI hq
            go_wp2_with fail
            have hblk : (w5.alloc (.cells #[.int .i64 (v : Int)] 3)).heap[w5.heap.size]? = some (.cells #[.int .i64 (v : Int)] 3 (0, 0)) := blk_new w5 _
            have HI6 := HI5.below ((Below.refl _ w5).alloc (Nat.le_refl _) (.cells #[.int .i64 (v : Int)] 3))
            refine (degree_calls w3.heap.size v H _ HI6.arr hv16 (HI6.lt v)).mono ?_
            rintro e w7 ⟨rfl, hD⟩
            obtain ⟨⟨m7, hm7⟩⟩ := hD
            have HI7 : GrI w w7 w3.heap.size H (.slice (some ⟨q, 0, none⟩) lf.length cap) lf := by
              rw [hm7]
              exact HI6.below (pw_below_drewN (Below.refl _ _) m7)
            have hblk7 : w7.heap[w5.heap.size]? = some (.cells #[.int .i64 (v : Int)] 3 (0, 0)) := by
              rw [hm7]
              exact hblk
            have hc7 : w7.cell? ⟨w5.heap.size, 0, none⟩ = some (.int .i64 (v : Int)) := (blk_cell hblk7 0).trans rfl
            have hg5 : w3.heap.size < w5.heap.size := blk_lt HI5.arr.out
            clear hm7 HI6 HI5 hblk
            go_wp2_with fail
            refine (cut_calls w3.heap.size v H w7 HI7.arr hv16 HI7.lt).mono ?_
            rintro e w8 ⟨rfl, hA8, hG8⟩
            have HI8 := HI7.cut_ hA8 hG8
            have hblk8 : w8.heap[w5.heap.size]? = some (.cells #[.int .i64 (v : Int)] 3 (0, 0)) := (hG8.block _ (blk_lt hblk7) (fun he => by injection he with he; omega)).trans hblk7
            clear hA8 hG8 HI7 hblk7 hc7
            have hidx : lf.idxOf (v : Int) < lf.length := List.idxOf_lt_length_of_mem HVM.out
            have hgx : lf.getD (lf.idxOf (v : Int)) 0 = (v : Int) := by
              rw [List.getD_eq_getElem?_getD, List.getElem?_eq_getElem hidx]
              exact List.getElem_idxOf hidx
            have H2 := Aside0.mk (deleteFunc_calls (fun x => x == (v : Int)) 63 #[.pointer (some ⟨w5.heap.size, 0, none⟩)] eg63 q cap w.heap.size lf (lf.idxOf (v : Int)) w8 HI8.row hidx (by show (lf.getD (lf.idxOf (v : Int)) 0 == (v : Int)) = true; rw [hgx]; simp) (fun j hj hne => by
              show (lf.getD j 0 == (v : Int)) = false
              rw [beq_eq_false_iff_ne]
              intro he
              rw [← hgx, List.getD_eq_getElem?_getD, List.getElem?_eq_getElem hj, List.getD_eq_getElem?_getD, List.getElem?_eq_getElem hidx] at he
              exact hne ((List.getElem_inj HL.out.1).1 he)) (fun W hW x => lower2_calls x v w5.heap.size W (((blk_cell ((hW.block _ (blk_lt hblk8) (fun he => by injection he with he; omega)).trans hblk8) 0).trans rfl))))
            rw [← List.erase_eq_eraseIdx_of_idxOf (l := lf) (a := (v : Int)) rfl, ← hlen1] at H2
            clear hblk8 hidx hgx
            go_wp2_with fail
            refine H2.out.mono ?_
            rintro e w9 ⟨rfl, hR9, hG9⟩
            have HI9 := HI8.del hwq (fun e => hqg e.symm) hR9 hG9
            have HL9 : Aside0 ((lf.erase (v : Int)).Nodup ∧ ∀ x ∈ lf.erase (v : Int), 0 ≤ x ∧ x < 16) := ⟨HL.out.1.erase _, fun x hx => HL.out.2 x (List.mem_of_mem_erase hx)⟩
            rw [hlen1] at HI9
            clear hR9 hG9 HI8 H2
            go_wp2
            go_roundw
            case rel => exact ⟨_, _, _, rfl, HL9, HST, HI9⟩
            case measure => simp; omega
          · have h0 : lf.length = 0 := by omega
            have hend : Aside0 (mst = lwL k G ids 0) := ⟨by rw [← HE.out, h0]; rfl⟩
            obtain ⟨A9, c9, rfl, hc9, hC9⟩ := Kd.R_reads HI.row
            have HB9 := Aside0.mk HI.bel
            have hgt : decide (0 < (lf.length : Int)) = false := decide_eq_false (by omega)
            clear HI hC9
            go_wp2
            go_ret2
            exact ⟨by rw [hend.out, HGe.out, HID.out]; rfl, HB9.out⟩
end
section
set_option linter.unusedVariables false
set_option linter.unusedSimpArgs false
open Go.RowKit Go.Proofs.YtnnaakinchophaaW.PrintWords Go.Proofs.YtnnaakinchophaaW.PrintLast Go.Proofs.YtnnaakinchophaaW.PrintMore
def rlL (N : Nat) (G : Nat → Nat) : Nat → Nat → Int → Int
  | 0, _, w => w
  | m + 1, L, w => rlL N G m (cb L (rgI false N G L 0 (-1)).toNat) (mx w ((nb G L N (rgI false N G L 0 (-1)).toNat).length : Int))
/-- What the reference's Lower says. -/
def rlowerF (n : Int) (l : List (List Int)) : Int × Int := if rightF n l then (rlL n.toNat (ofG l) n.toNat (2 ^ n.toNat - 1) 0, 0) else (0, 1)
structure RlI (w wr : World) (N gb A B : Nat) (R H : Nat → Nat) (L : Nat) : Prop where
  mat : Mat wr N w.heap.size A B R H L
  box : wr.heap[gb]? = some (gbox N A B)
  bel : Below w.heap.size w wr
theorem RlI.below {w wr w1 : World} {N gb A B : Nat} {R H : Nat → Nat} {L : Nat} (h : RlI w wr N gb A B R H L) (hb : Below wr.heap.size wr w1) : RlI w w1 N gb A B R H L :=
  ⟨h.mat.below hb, blk_below h.box hb, below_step h.bel hb⟩
theorem RlI.drewN {w wr : World} {N gb A B : Nat} {R H : Nat → Nat} {L : Nat} (h : RlI w wr N gb A B R H L) (m : Nat) : RlI w (wr.drewN m) N gb A B R H L := h.below (pw_below_drewN (Below.refl _ _) m)
theorem RlI.out {w wr w1 : World} {N gb A B : Nat} {R H H' : Nat → Nat} {L L' : Nat} (h : RlI w wr N gb A B R H L) (hm : Mat w1 N w.heap.size A B R H' L') (ho : OutK wr w1 N B R) : RlI w w1 N gb A B R H' L' :=
  ⟨hm, (ho.block gb (blk_lt h.box) (types_ne h.box h.mat.left (by decide)).1 (fun i hi => (types_ne h.box (h.mat.row i hi) (by decide)).1)).trans h.box, h.bel.trans (ho.below h.bel.size h.mat.baseB h.mat.baseR)⟩
theorem RlI.unleft {w wr : World} {N gb A B : Nat} {R H : Nat → Nat} {L : Nat} (h : RlI w wr N gb A B R H L) (v : Nat) (hN : N ≤ 16) : RlI w (wr.setCell ⟨B, v, none⟩ (.bool false)) N gb A B R H (cb L v) :=
  h.out (h.mat.unleft v hN) ((OutK.ofBelow (Below.refl _ _)).set _ _ _ (Or.inl rfl))
def r37.T11 : Bool × List (List Nat × List Nat) := (true, [([], []), ([0], [0]), ([], []), ([1, 2], [1, 2]), ([3], [3]), ([4], [4]), ([5], [5]), ([6, 5], [5, 6]), ([7, 5, 5], [5, 7]), ([8], [8]), ([8], [8]), ([9, 10, 8, 8], [8, 9, 10]), ([11, 8], [8, 11]), ([8], [8]), ([8], [8]), ([13, 14, 11, 8], [8, 13, 14]), ([15, 8], [8, 15]), ([12, 16, 8], [8, 12, 16]), ([8, 17, 5], [5, 8, 17]), ([5, 18], [5, 18])])
def r37.B11 : List Nat := [0, 1, 0, 7, 15, 31, 63, 127, 255, 511, 511, 2047, 4095, 511, 511, 28671, 61439, 131071, 262143, 524287]
theorem r37.tab11 : rtab .any (opsOf Try.f37 11) = r37.T11 := by kernel_rfl
theorem r37.bits11 : waitsOk r37.T11.2 r37.B11 = true := by kernel_rfl
set_option maxHeartbeats 4000000 in
set_option maxRecDepth 100000 in
theorem rlower_calls (n : Int) (A : Option Addr) (c : Nat) (l : List (List Int)) (w : World) (hr : Kd.C kl w A l.length l) (hc : l.length ≤ c) :
    Calls Try.prog 37 #[.int .i64 n, .slice A l.length c] w fun e w' => e = .returned (.tuple #[.int .i64 (rlowerF n l).1, .int .i64 (rlowerF n l).2]) ∧ Below w.heap.size w w' := by
  have hu61 := Try.underlying61
  have HC := Aside0.mk (rright_calls n A c l w hr)
  cases hR : rightF n l with
  | false =>
    have hE : rlowerF n l = (0, 1) := by unfold rlowerF; rw [hR]; rfl
    rw [hR] at HC
    rw [hE]
    clear hr hR hE
    go_enter Try.func37, Try.ntmps37
    go_wp2_with fail
    refine HC.out.mono ?_
    rintro e w1 ⟨rfl, rfl⟩
    go_wp2
    go_ret2
    exact ⟨rfl, Below.refl _ _⟩
  | true =>
    have hT := rightF_true hR
    obtain ⟨N, rfl⟩ := Int.eq_ofNat_of_zero_le hT.1
    have hN : N ≤ 16 := by omega
    have hv : ∀ x ∈ l, ∀ v ∈ x, 0 ≤ v ∧ v < (N : Int) := fun x hx v hv => (hT.2.2.2 x hx).2 v hv
    rw [hR] at HC
    have hE : rlowerF N l = (rlL N (ofG l) N (2 ^ N - 1) 0, 0) := by unfold rlowerF; rw [hR]; rfl
    rw [hE]
    have HRf := Aside0.mk (rof_calls N A c l w hr hc hN hv)
    clear hr hR hv hT hE
    go_enter Try.func37, Try.ntmps37
    go_wp2_with fail
    refine HC.out.mono ?_
    rintro e w1 ⟨rfl, rfl⟩
    clear HC
    go_wp2_with fail
    refine HRf.out.mono ?_
    rintro e w3 ⟨A1, B1, R, rfl, hM, hb⟩
    generalize hG : ofG l = G at *
    have HGe := Aside0.mk hG
    generalize hL : 2 ^ N - 1 = L at *
    have HLe := Aside0.mk hL
    have HI0 : RlI w1 (w3.alloc (gbox N A1 B1)) N w3.heap.size A1 B1 R G L := ⟨hM.alloc _, blk_new w3 _, hb.alloc hb.size _⟩
    clear hM hb hG hL HRf
    go_wp2
    go_loopw [7, 18] (fun s7 s18 wr => ∃ k : Nat, ∃ L' : Nat, ∃ mst : Int, ∃ out : List Int, k ≤ N ∧ s18 = .int .i64 (k : Int) ∧ s7 = .int .i64 mst ∧ Aside0 (rlL N G (N - k) L' mst = rlL N G N L 0) ∧ Aside0 (out.length = k ∧ ∀ j : Nat, j < N → L'.testBit j = false → (j : Int) ∈ out) ∧ RlI w1 wr N w3.heap.size A1 B1 R G L') (fun _ s18 _ => (N - (intOf s18).toNat))
    case atStart => exact ⟨0, L, 0, [], by omega, rfl, rfl, ⟨rfl⟩, ⟨rfl, fun j hj h => by rw [← HLe.out, Nat.testBit_two_pow_sub_one, decide_eq_true hj] at h; cases h⟩, HI0⟩
    case round =>
      clear HI0
      obtain ⟨k, L', mst, out, hk, rfl, rfl, HE, HP, HI⟩ := hrel
      by_cases hlt : k < N
      · have hkd : decide (k < N) = true := decide_eq_true hlt
        have hst : Aside0 (rlL N G (N - (k + 1)) (cb L' (rgI false N G L' 0 (-1)).toNat) (mx mst ((nb G L' N (rgI false N G L' 0 (-1)).toNat).length : Int)) = rlL N G N L 0) := ⟨by
          rw [← HE.out, show N - k = (N - (k + 1)) + 1 by omega]
          rfl⟩
        generalize hgr : rgI false N G L' 0 (-1) = fin at *
        have HGR := Aside0.mk hgr
        clear hgr HE
        go_wp2
        go_loopw [8, 9] (fun s8 s9 wr => ∃ v : Nat, ∃ best : Int, v ≤ N ∧ s9 = .int .i64 (v : Int) ∧ s8 = .int .i64 best ∧ Aside0 (rgI false N G L' v best = fin) ∧ Aside0 ((best = -1 ∧ ∀ u : Nat, u < v → L'.testBit u = false) ∨ (0 ≤ best ∧ best < (N : Int))) ∧ RlI w1 wr N w3.heap.size A1 B1 R G L') (fun _ s9 _ => (N - (intOf s9).toNat))
        case atStart => exact ⟨0, -1, by omega, rfl, rfl, HGR, ⟨Or.inl ⟨rfl, fun u hu => by omega⟩⟩, HI⟩
        case round =>
          clear HI
          obtain ⟨v, best, hv, rfl, rfl, HS, HB, HI⟩ := hrel
          by_cases hltv : v < N
          · have hvd : decide (v < N) = true := decide_eq_true hltv
            have hS2 : Aside0 (rgI false N G L' (v + 1) (if rgT false G L' N best v = true then (v : Int) else best) = fin) := ⟨by rw [← HS.out, rgI_step false N G L' v best hltv, rgS_eq]⟩
            have HTd := Aside0.mk (show rgT false G L' N best v = (L'.testBit v && (decide (best < 0) || decide (rcF false G L' N v < rcF false G L' N best.toNat))) from rfl)
            generalize rgT false G L' N best v = t at *
            obtain ⟨hb0, hb1⟩ := boxC HI.box
            have hlc := HI.mat.leftC v hltv
            clear HS
            go_wp2
            go_upto_region 11 with fail
            go_cut [44] (fun s44 wx => s44 = .bool t ∧ RlI w1 wx N w3.heap.size A1 B1 R G L')
            case first =>
              cases hL : L'.testBit v with
              | false =>
                have ht : Aside0 (t = false) := ⟨by rw [HTd.out, hL]; rfl⟩
                rw [hL] at hlc
                go_quiet (fail)
                go_wp2
                go_meet
                exact ⟨by rw [ht.out], HI.drewN _⟩
              | true =>
                rw [hL] at hlc
                by_cases hbn : best < 0
                · have hbd : decide (best < 0) = true := decide_eq_true hbn
                  have ht : Aside0 (t = true) := ⟨by rw [HTd.out, hL, hbd]; rfl⟩
                  go_quiet (fail)
                  go_wp2
                  go_meet
                  exact ⟨by rw [ht.out], HI.drewN _⟩
                · have hbd : decide (best < 0) = false := decide_eq_false hbn
                  obtain ⟨u, rfl⟩ := Int.eq_ofNat_of_zero_le (show 0 ≤ best by omega)
                  have hu : u < N := by
                    rcases HB.out with h | h <;> omega
                  have ht : Aside0 (t = decide (((nb G L' N v).length : Int) < ((nb G L' N u).length : Int))) := ⟨by rw [HTd.out, hL, hbd]; rfl⟩
                  have hcall : gval N A1 B1 = .agg #[.slice (some ⟨A1, 0, none⟩) N N, .slice (some ⟨B1, 0, none⟩) N N] := rfl
                  have HID := HI.drewN 1
                  have H1 := Aside0.mk (nb_calls HID.mat hN v hltv)
                  rw [hcall] at H1
                  refine start_ (n := 20) (S := fun w' : World => w'.cell? ⟨w3.heap.size, 0, none⟩ = some (.slice (some ⟨A1, 0, none⟩) N N) ∧ w'.cell? ⟨w3.heap.size, 1, none⟩ = some (.slice (some ⟨B1, 0, none⟩) N N) ∧ w'.cell? ⟨B1, v, none⟩ = some (.bool true)) (ds := []) #[false, false, false, false, false, false, false, false, false, false, false, false, false, false, false, false, false, false, false, false] (by kernel_rfl) rfl rfl ⟨hb0, hb1, hlc⟩ (fun hHeld => ?_)
                  refine with_tabW r37.tab11 r37.bits11 (fun HT_ HW_ => ?_)
                  refine pure_ (i := 0) (N := some 25) (v := ?_) (a' := ?_) #[true, false, false, false, false, false, false, false, false, false, false, false, false, false, false, false, false, false, false, false] rfl rfl (any_of HT_.out (by kernel_rfl)) (fun _ _ _ h => h) (Or.inl ⟨by rfl, ?_⟩) ?_ ?_
                  rotate_left
                  · intro w'
                    go_simp
                    with_reducible rfl
                  rotate_left
                  · simp only [Act.put, List.setIfInBounds_toArray, List.set_cons_zero, List.set_cons_succ, i64_w, i32_w]
                    rfl
                  refine pure_ (i := 2) (N := some 27) (v := ?_) (a' := ?_) #[true, false, true, false, false, false, false, false, false, false, false, false, false, false, false, false, false, false, false, false] rfl rfl (any_of HT_.out (by kernel_rfl)) (fun _ _ _ h => h) (Or.inl ⟨by rfl, ?_⟩) ?_ ?_
                  rotate_left
                  · intro w'
                    go_simp
                    with_reducible rfl
                  rotate_left
                  · simp only [Act.put, List.setIfInBounds_toArray, List.set_cons_zero, List.set_cons_succ, i64_w, i32_w]
                    rfl
                  refine take_ (i := 1) (N := some 26) (v := ?_) (a' := ?_) #[true, true, true, false, false, false, false, false, false, false, false, false, false, false, false, false, false, false, false, false] rfl rfl (take_ofW HT_.out HW_.out (by kernel_rfl)) (fun _ _ _ h => h) (Or.inl ⟨by rfl, ?_⟩) hHeld ?_ ?_
                  rotate_left
                  · rintro w' ⟨s0, s1, s2⟩
                    go_simp
                    with_reducible rfl
                  rotate_left
                  · simp only [Act.put, List.setIfInBounds_toArray, List.set_cons_zero, List.set_cons_succ, i64_w, i32_w]
                    rfl
                  refine pure_ (i := 3) (N := some 28) (v := ?_) (a' := ?_) #[true, true, true, true, false, false, false, false, false, false, false, false, false, false, false, false, false, false, false, false] rfl rfl (any_of HT_.out (by kernel_rfl)) (fun _ _ _ h => h) (Or.inl ⟨by rfl, ?_⟩) ?_ ?_
                  rotate_left
                  · intro w'
                    go_simp
                    with_reducible rfl
                  rotate_left
                  · simp only [Act.put, List.setIfInBounds_toArray, List.set_cons_zero, List.set_cons_succ, i64_w, i32_w]
                    rfl
                  refine take_ (i := 4) (N := some 29) (v := ?_) (a' := ?_) #[true, true, true, true, true, false, false, false, false, false, false, false, false, false, false, false, false, false, false, false] rfl rfl (take_ofW HT_.out HW_.out (by kernel_rfl)) (fun _ _ _ h => h) (Or.inl ⟨by rfl, ?_⟩) hHeld ?_ ?_
                  rotate_left
                  · rintro w' ⟨s0, s1, s2⟩
                    go_simp
                    with_reducible rfl
                  rotate_left
                  · simp only [Act.put, List.setIfInBounds_toArray, List.set_cons_zero, List.set_cons_succ, i64_w, i32_w]
                    rfl
                  refine pure_ (i := 5) (N := some 30) (v := ?_) (a' := ?_) #[true, true, true, true, true, true, false, false, false, false, false, false, false, false, false, false, false, false, false, false] rfl rfl (any_of HT_.out (by kernel_rfl)) (fun _ _ _ h => h) (Or.inl ⟨by rfl, ?_⟩) ?_ ?_
                  rotate_left
                  · intro w'
                    go_simp
                    with_reducible rfl
                  rotate_left
                  · simp only [Act.put, List.setIfInBounds_toArray, List.set_cons_zero, List.set_cons_succ, i64_w, i32_w]
                    rfl
                  refine pure_ (i := 6) (N := some 31) (v := ?_) (a' := ?_) #[true, true, true, true, true, true, true, false, false, false, false, false, false, false, false, false, false, false, false, false] rfl rfl (any_of HT_.out (by kernel_rfl)) (fun _ _ _ h => h) (Or.inl ⟨by rfl, ?_⟩) ?_ ?_
                  rotate_left
                  · intro w'
                    go_simp
                    with_reducible rfl
                  rotate_left
                  · simp only [Act.put, List.setIfInBounds_toArray, List.set_cons_zero, List.set_cons_succ, i64_w, i32_w]
                    rfl
                  refine pure_ (i := 7) (N := some 32) (v := ?_) (a' := ?_) #[true, true, true, true, true, true, true, true, false, false, false, false, false, false, false, false, false, false, false, false] rfl rfl (any_of HT_.out (by kernel_rfl)) (fun _ _ _ h => h) (Or.inl ⟨by rfl, ?_⟩) ?_ ?_
                  rotate_left
                  · intro w'
                    go_simp
                    with_reducible rfl
                  rotate_left
                  · simp only [Act.put, List.setIfInBounds_toArray, List.set_cons_zero, List.set_cons_succ, i64_w, i32_w]
                    rfl
                  refine pure_ (i := 8) (N := some 33) (v := ?_) (a' := ?_) #[true, true, true, true, true, true, true, true, true, false, false, false, false, false, false, false, false, false, false, false] rfl rfl (any_of HT_.out (by kernel_rfl)) (fun _ _ _ h => h) (Or.inl ⟨by rfl, ?_⟩) ?_ ?_
                  rotate_left
                  · intro w'
                    go_simp
                    with_reducible rfl
                  rotate_left
                  · simp only [Act.put, List.setIfInBounds_toArray, List.set_cons_zero, List.set_cons_succ, i64_w, i32_w]
                    rfl
                  refine pure_ (i := 10) (N := some 35) (v := ?_) (a' := ?_) #[true, true, true, true, true, true, true, true, true, false, true, false, false, false, false, false, false, false, false, false] rfl rfl (any_of HT_.out (by kernel_rfl)) (fun _ _ _ h => h) (Or.inl ⟨by rfl, ?_⟩) ?_ ?_
                  rotate_left
                  · intro w'
                    go_simp
                    with_reducible rfl
                  rotate_left
                  · simp only [Act.put, List.setIfInBounds_toArray, List.set_cons_zero, List.set_cons_succ, i64_w, i32_w]
                    rfl
                  refine pure_ (i := 14) (N := some 39) (v := ?_) (a' := ?_) #[true, true, true, true, true, true, true, true, true, false, true, false, false, false, true, false, false, false, false, false] rfl rfl (any_of HT_.out (by kernel_rfl)) (fun _ _ _ h => h) (Or.inl ⟨by rfl, ?_⟩) ?_ ?_
                  rotate_left
                  · intro w'
                    go_simp
                    with_reducible rfl
                  rotate_left
                  · simp only [Act.put, List.setIfInBounds_toArray, List.set_cons_zero, List.set_cons_succ, i64_w, i32_w]
                    rfl
                  refine take_ (i := 9) (N := some 34) (v := ?_) (a' := ?_) #[true, true, true, true, true, true, true, true, true, true, true, false, false, false, true, false, false, false, false, false] rfl rfl (take_ofW HT_.out HW_.out (by kernel_rfl)) (fun _ _ _ h => h) (Or.inl ⟨by rfl, ?_⟩) hHeld ?_ ?_
                  rotate_left
                  · rintro w' ⟨s0, s1, s2⟩
                    go_simp
                    with_reducible rfl
                  rotate_left
                  · simp only [Act.put, List.setIfInBounds_toArray, List.set_cons_zero, List.set_cons_succ, i64_w, i32_w]
                    rfl
                  refine take_ (i := 13) (N := some 38) (v := ?_) (a' := ?_) #[true, true, true, true, true, true, true, true, true, true, true, false, false, true, true, false, false, false, false, false] rfl rfl (take_ofW HT_.out HW_.out (by kernel_rfl)) (fun _ _ _ h => h) (Or.inl ⟨by rfl, ?_⟩) hHeld ?_ ?_
                  rotate_left
                  · rintro w' ⟨s0, s1, s2⟩
                    go_simp
                    with_reducible rfl
                  rotate_left
                  · simp only [Act.put, List.setIfInBounds_toArray, List.set_cons_zero, List.set_cons_succ, i64_w, i32_w]
                    rfl
                  refine one_ (i := 11) (N := some 36) #[true, true, true, true, true, true, true, true, true, true, true, true, false, true, true, false, false, false, false, false] rfl rfl (one_of HT_.out (by kernel_rfl)) (by decide) (fun K hK => ?_)
                  refine goes_ Try.func43 (by kernel_rfl) rfl #[.agg #[.slice (some ⟨A1, 0, none⟩) N N, .slice (some ⟨B1, 0, none⟩) N N], .int .i64 (v : Int)] (by rfl) rfl rfl (by simp only [List.map_toArray, List.map_cons, List.map_nil]; rfl) ?_
                  refine H1.out.mono ?_
                  rintro e w5 ⟨v5, rfl, hR5, hb5⟩
                  obtain ⟨a5, c5, rfl, -, -⟩ := Kd.R_reads hR5
                  refine ⟨_, rfl, ?_⟩
                  have HI5 := HID.below hb5
                  clear hb5 hR5
                  have H2A := Aside0.mk (nb_calls HI5.mat hN u hu)
                  rw [hcall] at H2A
                  obtain ⟨hbx, hby⟩ := boxC HI5.box
                  have hlx := HI5.mat.leftC v hltv
                  rw [hL] at hlx
                  refine hK.out _ _ ⟨hbx, hby, hlx⟩ (fun hHeld => ?_)
                  clear hK K hbx hby hlx
                  refine pure_ (i := 12) (N := some 37) (v := ?_) (a' := ?_) #[true, true, true, true, true, true, true, true, true, true, true, true, true, true, true, false, false, false, false, false] rfl rfl (any_of HT_.out (by kernel_rfl)) (fun _ _ _ h => h) (Or.inl ⟨by rfl, ?_⟩) ?_ ?_
                  rotate_left
                  · intro w'
                    go_simp
                    with_reducible rfl
                  rotate_left
                  · simp only [Act.put, List.setIfInBounds_toArray, List.set_cons_zero, List.set_cons_succ, i64_w, i32_w]
                    rfl
                  refine one_ (i := 15) (N := some 40) #[true, true, true, true, true, true, true, true, true, true, true, true, true, true, true, true, false, false, false, false] rfl rfl (one_of HT_.out (by kernel_rfl)) (by decide) (fun K hK => ?_)
                  refine goes_ Try.func43 (by kernel_rfl) rfl #[.agg #[.slice (some ⟨A1, 0, none⟩) N N, .slice (some ⟨B1, 0, none⟩) N N], .int .i64 (u : Int)] (by rfl) rfl rfl (by simp only [List.map_toArray, List.map_cons, List.map_nil]; rfl) ?_
                  refine H2A.out.mono ?_
                  rintro e w6 ⟨v5, rfl, hR5, hb5⟩
                  obtain ⟨a5, c5, rfl, -, -⟩ := Kd.R_reads hR5
                  refine ⟨_, rfl, ?_⟩
                  have HI6 := HI5.below hb5
                  clear hb5 hR5
                  obtain ⟨hbx, hby⟩ := boxC HI6.box
                  have hlx := HI6.mat.leftC v hltv
                  rw [hL] at hlx
                  refine hK.out _ _ ⟨hbx, hby, hlx⟩ (fun hHeld => ?_)
                  clear hK K hbx hby hlx
                  refine pure_ (i := 16) (N := some 41) (v := ?_) (a' := ?_) #[true, true, true, true, true, true, true, true, true, true, true, true, true, true, true, true, true, false, false, false] rfl rfl (any_of HT_.out (by kernel_rfl)) (fun _ _ _ h => h) (Or.inl ⟨by rfl, ?_⟩) ?_ ?_
                  rotate_left
                  · intro w'
                    go_simp
                    with_reducible rfl
                  rotate_left
                  · simp only [Act.put, List.setIfInBounds_toArray, List.set_cons_zero, List.set_cons_succ, i64_w, i32_w]
                    rfl
                  refine pure_ (i := 17) (N := some 42) (v := ?_) (a' := ?_) #[true, true, true, true, true, true, true, true, true, true, true, true, true, true, true, true, true, true, false, false] rfl rfl (any_of HT_.out (by kernel_rfl)) (fun _ _ _ h => h) (Or.inl ⟨by rfl, ?_⟩) ?_ ?_
                  rotate_left
                  · intro w'
                    go_simp
                    with_reducible rfl
                  rotate_left
                  · simp only [Act.put, List.setIfInBounds_toArray, List.set_cons_zero, List.set_cons_succ, i64_w, i32_w]
                    rfl
                  refine pure_ (i := 18) (N := some 43) (v := ?_) (a' := ?_) #[true, true, true, true, true, true, true, true, true, true, true, true, true, true, true, true, true, true, true, false] rfl rfl (any_of HT_.out (by kernel_rfl)) (fun _ _ _ h => h) (Or.inl ⟨by rfl, ?_⟩) ?_ ?_
                  rotate_left
                  · intro w'
                    go_simp
                    with_reducible rfl
                  rotate_left
                  · simp only [Act.put, List.setIfInBounds_toArray, List.set_cons_zero, List.set_cons_succ, i64_w, i32_w]
                    rfl
                  refine pure_ (i := 19) (N := some 44) (v := ?_) (a' := ?_) #[true, true, true, true, true, true, true, true, true, true, true, true, true, true, true, true, true, true, true, true] rfl rfl (any_of HT_.out (by kernel_rfl)) (fun _ _ _ h => h) (Or.inl ⟨by rfl, ?_⟩) ?_ ?_
                  rotate_left
                  · intro w'
                    go_simp
                    with_reducible rfl
                  rotate_left
                  · simp only [Act.put, List.setIfInBounds_toArray, List.set_cons_zero, List.set_cons_succ, i64_w, i32_w]
                    rfl
                  refine done_ (done_of HT_.out (by kernel_rfl)) ?_

                  go_wp2
                  go_meet
                  exact ⟨by rw [ht.out]; simp, HI6⟩
            case rest =>
              obtain ⟨rfl, HI2⟩ := hcut
              cases t with
              | true =>
                have hT : Aside0 (rgI false N G L' (v + 1) (v : Int) = fin) := ⟨by have := hS2.out; rwa [if_pos rfl] at this⟩
                go_wp2
                go_roundw
                case rel => exact ⟨v + 1, (v : Int), by omega, by go_num, rfl, hT, ⟨Or.inr ⟨by omega, by omega⟩⟩, HI2⟩
                case measure => simp [intOf]; omega
              | false =>
                have hT : Aside0 (rgI false N G L' (v + 1) best = fin) := ⟨by have := hS2.out; rwa [if_neg (by simp)] at this⟩
                have HB2 : Aside0 ((best = -1 ∧ ∀ u : Nat, u < v + 1 → L'.testBit u = false) ∨ (0 ≤ best ∧ best < (N : Int))) := ⟨by
                  rcases HB.out with ⟨h1, h2⟩ | h1
                  · refine Or.inl ⟨h1, fun u hu => ?_⟩
                    by_cases e : u = v
                    · subst e
                      have := HTd.out
                      rw [h1] at this
                      cases hx : L'.testBit u with
                      | false => rfl
                      | true => rw [hx] at this; simp at this
                    · exact h2 u (by omega)
                  · exact Or.inr h1⟩
                go_wp2
                go_roundw
                case rel => exact ⟨v + 1, best, by omega, by go_num, rfl, hT, HB2, HI2⟩
                case measure => simp [intOf]; omega
          · obtain rfl : v = N := by omega
            have hfin : fin = best := by rw [← HS.out, rgI_end]
            have hB : 0 ≤ best ∧ best < (v : Int) := by
              rcases HB.out with ⟨h1, h2⟩ | h1
              · have := pigeon v out (fun u hu => HP.out.2 u hu (h2 u hu))
                have := HP.out.1
                omega
              · exact h1
            have hst2 := hst.out
            rw [hfin] at hst2
            obtain ⟨bn, rfl⟩ := Int.eq_ofNat_of_zero_le hB.1
            have hbn : bn < v := by omega
            rw [Int.toNat_natCast] at hst2
            have hcall : gval v A1 B1 = .agg #[.slice (some ⟨A1, 0, none⟩) v v, .slice (some ⟨B1, 0, none⟩) v v] := rfl
            have H1 := Aside0.mk (nb_calls HI.mat hN bn hbn)
            rw [hcall] at H1
            have HP2 : Aside0 ((out ++ [(bn : Int)]).length = k + 1 ∧ ∀ j : Nat, j < v → (cb L' bn).testBit j = false → (j : Int) ∈ out ++ [(bn : Int)]) := ⟨by rw [List.length_append, HP.out.1]; rfl, fun j hj h => by
              rw [cb_bit L' bn j (by omega)] at h
              by_cases e : j = bn
              · subst e; simp
              · have h2 : L'.testBit j = false := by simpa [e] using h
                exact List.mem_append_left _ (HP.out.2 j hj h2)⟩
            have hD : ((nb G L' v bn).length : Int) = ((nb G L' v bn).length : Int) := rfl
            obtain ⟨M, hM⟩ : ∃ M : Int, mx mst ((nb G L' v bn).length : Int) = M := ⟨_, rfl⟩
            have hM0 : (if mst < ((nb G L' v bn).length : Int) then ((nb G L' v bn).length : Int) else mst) = M := hM
            rw [hM] at hst2
            have hst3 := Aside0.mk hst2
            obtain ⟨hb0, hb1⟩ := boxC HI.box
            clear HS HB hst hst2 hfin hB HGR HP hD hM
            go_wp2_with fail
            refine H1.out.mono ?_
            rintro e w5 ⟨v5, rfl, hR5, hb5⟩
            obtain ⟨a5, c5, rfl, -, -⟩ := Kd.R_reads hR5
            have HI5 := HI.below hb5
            have hl := HI5.mat.leftC bn hbn
            have hlf := HI5.mat.leftF bn
            obtain ⟨hbx, hby⟩ := boxC HI5.box
            have HU := Aside0.mk (HI5.unleft bn hN)
            clear H1 hR5 hb5 HI hb0 hb1
            go_wp2
            go_roundw
            case rel => exact ⟨k + 1, _, _, _, by omega, by go_num, rfl, hst3, HP2, HU.out⟩
            case measure => simp [intOf]; omega
      · obtain rfl : k = N := by omega
        have hend : Aside0 (mst = rlL k G k L 0) := ⟨by rw [← HE.out, Nat.sub_self]; rfl⟩
        have HB := Aside0.mk HI.bel
        clear HI
        go_wp2
        go_ret2
        exact ⟨by rw [HGe.out, HLe.out, ← hend.out]; rfl, HB.out⟩
end
section
set_option linter.unusedVariables false
set_option linter.unusedSimpArgs false
open Go.RowKit Go.Proofs.YtnnaakinchophaaW.PrintWords Go.Proofs.YtnnaakinchophaaW.PrintLast Go.Proofs.YtnnaakinchophaaW.PrintMore
/-- v is left and its neighbors are a clique. -/
def rchT (N : Nat) (G : Nat → Nat) (L v : Nat) : Bool := L.testBit v && decide ((rfill G L N v).length = 0)
/-- The first such from v on. -/
def rchI (N : Nat) (G : Nat → Nat) (L v : Nat) : Option Nat := (List.range' v (N - v)).find? (rchT N G L)
def rchL (N : Nat) (G : Nat → Nat) : Nat → Nat → Bool
  | 0, _ => true
  | m + 1, L => match rchI N G L 0 with
    | none => false
    | some v => rchL N G m (cb L v)
/-- What the reference's Chordal says. -/
def rchordF (n : Int) (l : List (List Int)) : Bool × Int := if rightF n l then (rchL n.toNat (ofG l) n.toNat (2 ^ n.toNat - 1), 0) else (false, 1)
def RchS (N : Nat) (G : Nat → Nat) (L0 : Nat) (fin : Option Nat) (fd : Bool) (L2 v : Nat) : Prop := (fd = false ∧ L2 = L0 ∧ rchI N G L0 v = fin) ∨ (fd = true ∧ ∃ u, u < N ∧ fin = some u ∧ L2 = cb L0 u)
theorem rchI_end (N : Nat) (G : Nat → Nat) (L : Nat) : rchI N G L N = none := by simp [rchI]
theorem rchI_step (N : Nat) (G : Nat → Nat) (L v : Nat) (h : v < N) : rchI N G L v = if rchT N G L v = true then some v else rchI N G L (v + 1) := by
  unfold rchI
  rw [show N - v = (N - (v + 1)) + 1 by omega, List.range'_succ, List.find?_cons]
  cases rchT N G L v <;> rfl
set_option maxHeartbeats 4000000 in
set_option maxRecDepth 100000 in
theorem rchordal_calls (n : Int) (A : Option Addr) (c : Nat) (l : List (List Int)) (w : World) (hr : Kd.C kl w A l.length l) (hc : l.length ≤ c) :
    Calls Try.prog 38 #[.int .i64 n, .slice A l.length c] w fun e w' => e = .returned (.tuple #[.bool (rchordF n l).1, .int .i64 (rchordF n l).2]) ∧ Below w.heap.size w w' := by
  have hu61 := Try.underlying61
  have HC := Aside0.mk (rright_calls n A c l w hr)
  cases hR : rightF n l with
  | false =>
    have hE : rchordF n l = (false, 1) := by unfold rchordF; rw [hR]; rfl
    rw [hR] at HC
    rw [hE]
    clear hr hR hE
    go_enter Try.func38, Try.ntmps38
    go_wp2_with fail
    refine HC.out.mono ?_
    rintro e w1 ⟨rfl, rfl⟩
    go_wp2
    go_ret2
    exact ⟨rfl, Below.refl _ _⟩
  | true =>
    have hT := rightF_true hR
    obtain ⟨N, rfl⟩ := Int.eq_ofNat_of_zero_le hT.1
    have hN : N ≤ 16 := by omega
    have hv : ∀ x ∈ l, ∀ v ∈ x, 0 ≤ v ∧ v < (N : Int) := fun x hx v hv => (hT.2.2.2 x hx).2 v hv
    rw [hR] at HC
    have hE : rchordF N l = (rchL N (ofG l) N (2 ^ N - 1), 0) := by unfold rchordF; rw [hR]; rfl
    rw [hE]
    have HRf := Aside0.mk (rof_calls N A c l w hr hc hN hv)
    clear hr hR hv hT hE
    go_enter Try.func38, Try.ntmps38
    go_wp2_with fail
    refine HC.out.mono ?_
    rintro e w1 ⟨rfl, rfl⟩
    clear HC
    go_wp2_with fail
    refine HRf.out.mono ?_
    rintro e w3 ⟨A1, B1, R, rfl, hM, hb⟩
    generalize hG : ofG l = G at *
    have HGe := Aside0.mk hG
    generalize hL : 2 ^ N - 1 = L at *
    have HLe := Aside0.mk hL
    have HI0 : RlI w1 (w3.alloc (gbox N A1 B1)) N w3.heap.size A1 B1 R G L := ⟨hM.alloc _, blk_new w3 _, hb.alloc hb.size _⟩
    clear hM hb hG hL HRf
    go_wp2
    go_loopw [17] (fun s17 wr => ∃ k : Nat, ∃ L' : Nat, k ≤ N ∧ s17 = .int .i64 (k : Int) ∧ Aside0 (rchL N G (N - k) L' = rchL N G N L) ∧ RlI w1 wr N w3.heap.size A1 B1 R G L') (fun s17 _ => (N - (intOf s17).toNat))
    case atStart => exact ⟨0, L, by omega, rfl, ⟨rfl⟩, HI0⟩
    case round =>
      clear HI0
      obtain ⟨k, L', hk, rfl, HE, HI⟩ := hrel
      by_cases hlt : k < N
      · have hkd : decide (k < N) = true := decide_eq_true hlt
        have hst : Aside0 ((match rchI N G L' 0 with | none => false | some v => rchL N G (N - (k + 1)) (cb L' v)) = rchL N G N L) := ⟨by
          rw [← HE.out, show N - k = (N - (k + 1)) + 1 by omega]
          rfl⟩
        generalize hgr : rchI N G L' 0 = fin at *
        have HGR := Aside0.mk hgr
        clear hgr HE
        go_wp2
        go_loopw [7, 8] (fun s7 s8 wr => ∃ v : Nat, ∃ fd : Bool, ∃ L2 : Nat, v ≤ N ∧ s8 = .int .i64 (v : Int) ∧ s7 = .bool fd ∧ Aside0 (RchS N G L' fin fd L2 v) ∧ RlI w1 wr N w3.heap.size A1 B1 R G L2) (fun _ s8 _ => (N - (intOf s8).toNat))
        case atStart => exact ⟨0, false, L', by omega, rfl, rfl, ⟨Or.inl ⟨rfl, rfl, HGR.out⟩⟩, HI⟩
        case round =>
          clear HI
          obtain ⟨v, fd, L2, hv, rfl, rfl, HS, HI⟩ := hrel
          cases fd with
          | true =>
            have HS2 : Aside0 (∃ u, u < N ∧ fin = some u ∧ L2 = cb L' u) := ⟨by
              rcases HS.out with ⟨h, _⟩ | h
              · cases h
              · exact h.2⟩
            have hst3 : Aside0 (rchL N G (N - (k + 1)) L2 = rchL N G N L) := ⟨by
              obtain ⟨u, hu, h1, h2⟩ := HS2.out
              rw [← hst.out, h1, h2]⟩
            clear HS HS2 hst HGR
            by_cases hltv : v < N
            · have hvd : decide (v < N) = true := decide_eq_true hltv
              go_wp2
              go_roundw
              case rel => exact ⟨k + 1, _, by omega, by go_num, hst3, HI⟩
              case measure => simp [intOf]; omega
            · have hvd : decide (v < N) = false := decide_eq_false hltv
              go_wp2
              go_roundw
              case rel => exact ⟨k + 1, _, by omega, by go_num, hst3, HI⟩
              case measure => simp [intOf]; omega
          | false =>
            have HS2 : Aside0 (L2 = L' ∧ rchI N G L' v = fin) := ⟨by
              rcases HS.out with h | ⟨h, _⟩
              · exact h.2
              · cases h⟩
            obtain ⟨rfl, hS0⟩ := HS2.out
            have HS0 := Aside0.mk hS0
            clear HS HS2 hS0
            by_cases hltv : v < N
            · have hvd : decide (v < N) = true := decide_eq_true hltv
              have hS2 : Aside0 ((if rchT N G L2 v = true then some v else rchI N G L2 (v + 1)) = fin) := ⟨by rw [← HS0.out, rchI_step N G L2 v hltv]⟩
              have HTd := Aside0.mk (show rchT N G L2 v = (L2.testBit v && decide ((rfill G L2 N v).length = 0)) from rfl)
              generalize rchT N G L2 v = t at *
              obtain ⟨hb0, hb1⟩ := boxC HI.box
              have hlc := HI.mat.leftC v hltv
              clear HS0
              have HS3 : Aside0 (t = false → RchS N G L2 fin false L2 (v + 1)) := ⟨fun ht => Or.inl ⟨rfl, rfl, by have := hS2.out; rwa [ht, if_neg (by simp)] at this⟩⟩
              have HS4 : Aside0 (t = true → RchS N G L2 fin true (cb L2 v) (v + 1)) := ⟨fun ht => Or.inr ⟨rfl, v, hltv, by have := hS2.out; rw [ht, if_pos rfl] at this; exact this.symm, rfl⟩⟩
              cases hL : L2.testBit v with
              | false =>
                have ht : Aside0 (t = false) := ⟨by rw [HTd.out, hL]; rfl⟩
                have HS5 := Aside0.mk (HS3.out ht.out)
                rw [hL] at hlc
                clear HS3 HS4 hS2 HTd
                go_wp2
                go_roundw
                case rel => exact ⟨v + 1, false, _, by omega, by go_num, rfl, HS5, HI⟩
                case measure => simp [intOf]; omega
              | true =>
                rw [hL] at hlc
                have ht : Aside0 (t = decide ((rfill G L2 N v).length = 0)) := ⟨by rw [HTd.out, hL]; rfl⟩
                have hcall : gval N A1 B1 = .agg #[.slice (some ⟨A1, 0, none⟩) N N, .slice (some ⟨B1, 0, none⟩) N N] := rfl
                have H1 := Aside0.mk (rfill_calls HI.mat hN v hltv)
                rw [hcall] at H1
                clear hS2 HTd
                go_wp2_with fail
                refine H1.out.mono ?_
                rintro e w5 ⟨v5, rfl, hR5, hb5⟩
                obtain ⟨a5, c5, rfl, -, -⟩ := Kd.R_reads hR5
                have HI5 := HI.below hb5
                clear H1 hR5 hb5 HI hb0 hb1 hlc
                obtain ⟨hbx, hby⟩ := boxC HI5.box
                have hlc2 := HI5.mat.leftC v hltv
                have hlf := HI5.mat.leftF v
                have HU := Aside0.mk (HI5.unleft v hN)
                by_cases hz : (rfill G L2 N v).length = 0
                · have hzb : (((rfill G L2 N v).length : Int) == 0) = true := by rw [hz]; rfl
                  have HS5 := Aside0.mk (HS4.out (by rw [ht.out, hz]; rfl))
                  clear HS3 HS4 ht
                  go_wp2
                  go_roundw
                  case rel => exact ⟨v + 1, true, _, by omega, by go_num, rfl, HS5, HU.out⟩
                  case measure => simp [intOf]; omega
                · have hzb : (((rfill G L2 N v).length : Int) == 0) = false := beq_eq_false_iff_ne.2 (by omega)
                  have HS5 := Aside0.mk (HS3.out (by rw [ht.out]; exact decide_eq_false hz))
                  clear HS3 HS4 ht
                  go_wp2
                  go_roundw
                  case rel => exact ⟨v + 1, false, _, by omega, by go_num, rfl, HS5, HI5⟩
                  case measure => simp [intOf]; omega
            · obtain rfl : v = N := by omega
              have hvd : decide (v < v) = false := decide_eq_false (by omega)
              have hend : Aside0 (false = rchL v G v L) := ⟨by rw [← hst.out, ← HS0.out, rchI_end]⟩
              have HB := Aside0.mk HI.bel
              clear HI hst HS0 HGR
              go_wp2
              go_ret2
              exact ⟨by rw [HGe.out, HLe.out, ← hend.out]; rfl, HB.out⟩
      · obtain rfl : k = N := by omega
        have hend : Aside0 (true = rchL k G k L) := ⟨by rw [← HE.out, Nat.sub_self]; rfl⟩
        have HB := Aside0.mk HI.bel
        clear HI
        go_wp2
        go_ret2
        exact ⟨by rw [HGe.out, HLe.out, ← hend.out]; rfl, HB.out⟩
end
section
set_option linter.unusedVariables false
set_option linter.unusedSimpArgs false
open Go.RowKit Go.Proofs.YtnnaakinchophaaW.PrintWords Go.Proofs.YtnnaakinchophaaW.PrintLast Go.Proofs.YtnnaakinchophaaW.PrintMore
/-- The variables that are left, in order. -/
def leftL (N L : Nat) : List Int := ((List.range N).filter fun j => L.testBit j).map fun j : Nat => (j : Int)
theorem leftL_mem {N L : Nat} {x : Int} : x ∈ leftL N L ↔ ∃ j : Nat, x = (j : Int) ∧ j < N ∧ L.testBit j = true := by
  unfold leftL
  rw [List.mem_map]
  constructor
  · rintro ⟨j, hj, rfl⟩
    obtain ⟨h1, h2⟩ := List.mem_filter.1 hj
    exact ⟨j, rfl, List.mem_range.1 h1, h2⟩
  · rintro ⟨j, rfl, h1, h2⟩
    exact ⟨j, List.mem_filter.2 ⟨List.mem_range.2 h1, h2⟩, rfl⟩
theorem leftL_all (N : Nat) : leftL N (2 ^ N - 1) = idL N := by
  unfold leftL idL
  congr 1
  apply List.filter_eq_self.2
  intro j hj
  rw [Nat.testBit_two_pow_sub_one]
  exact decide_eq_true (List.mem_range.1 hj)
theorem erase_map_filter (L v : Nat) (hv : v < 32) : ∀ (l : List Nat), l.Nodup → (∀ j ∈ l, j < 32) → (((l.filter fun j => L.testBit j).map fun j : Nat => (j : Int)).erase (v : Int)) = (l.filter fun j => (cb L v).testBit j).map fun j : Nat => (j : Int)
  | [], _, _ => rfl
  | x :: r, hn, hl => by
    obtain ⟨h1, h2⟩ := List.nodup_cons.1 hn
    have ih := erase_map_filter L v hv r h2 (fun j hj => hl j (List.mem_cons_of_mem _ hj))
    have hx := cb_bit L v x (hl x List.mem_cons_self)
    rw [List.filter_cons, List.filter_cons, hx]
    by_cases e : x = v
    · subst e
      have h3 : (r.filter fun j => (cb L x).testBit j) = r.filter fun j => L.testBit j := by
        apply List.filter_congr
        intro j hj
        rw [cb_bit L x j (hl j (List.mem_cons_of_mem _ hj))]
        have : j ≠ x := fun e => h1 (e ▸ hj)
        simp [this]
      cases hb : L.testBit x with
      | false =>
        simp only [Bool.false_and, Bool.false_eq_true, if_false]
        rw [ih]
      | true =>
        simp only [decide_true, Bool.not_true, Bool.and_false, if_true, Bool.false_eq_true, if_false, List.map_cons, List.erase_cons_head]
        rw [h3]
    · simp only [e, decide_false, Bool.not_false, Bool.and_true]
      cases hb : L.testBit x with
      | false =>
        simp only [Bool.false_eq_true, if_false]
        exact ih
      | true =>
        simp only [if_true, List.map_cons]
        rw [List.erase_cons_tail (by simp; omega), ih]
theorem leftL_erase {N L v : Nat} (hN : N ≤ 16) (hv : v < N) : (leftL N L).erase (v : Int) = leftL N (cb L v) :=
  erase_map_filter L v (by omega) (List.range N) List.nodup_range (fun j hj => by have := List.mem_range.1 hj; omega)
/-- The first least of what is left, found by going through all. -/
def pick (f : Int → Int) : List Int → Int
  | [] => -1
  | x :: r => minG f x r
theorem rg_pick {N : Nat} (hN : N ≤ 16) {H G : Nat → Nat} {L : Nat} (h : Sim N H G L) : ∀ (l : List Nat) (b : Int), (∀ v ∈ l, v < N) → (b = -1 ∨ ∃ u : Nat, b = (u : Int) ∧ u < N ∧ L.testBit u = true) →
    l.foldl (rgS false G L N) b = if b < 0 then pick (fun x => cfD H x.toNat) ((l.filter fun j => L.testBit j).map fun j : Nat => (j : Int)) else minG (fun x => cfD H x.toNat) b ((l.filter fun j => L.testBit j).map fun j : Nat => (j : Int))
  | [], b, _, hb => by
    rcases hb with rfl | ⟨u, rfl, _⟩
    · rfl
    · rw [if_neg (by omega)]; rfl
  | v :: r, b, hl, hb => by
    have hv := hl v List.mem_cons_self
    have hr := fun u hu => hl u (List.mem_cons_of_mem v hu)
    rw [List.foldl_cons, List.filter_cons]
    rw [show rgS false G L N b v = (if L.testBit v = true then (if b < 0 ∨ rcF false G L N v < rcF false G L N b.toNat then (v : Int) else b) else b) from rfl]
    cases hL : L.testBit v with
    | false =>
      simp only [Bool.false_eq_true, if_false]
      exact rg_pick hN h r b hr hb
    | true =>
      simp only [if_true, List.map_cons]
      have hcv := costD N H G L v hN h hv hL
      rcases hb with rfl | ⟨u, rfl, hu, hLu⟩
      · rw [if_pos (Or.inl (by decide)), if_pos (by decide), rg_pick hN h r _ hr (Or.inr ⟨v, rfl, hv, hL⟩), if_neg (by omega)]
        rfl
      · have hcu := costD N H G L u hN h hu hLu
        rw [if_neg (show ¬ ((u : Int) < 0) by omega)]
        have e : ((u : Int) < 0 ∨ rcF false G L N v < rcF false G L N u) ↔ cfD H v < cfD H u := by
          rw [← hcv, ← hcu]
          constructor
          · rintro (h | h)
            · omega
            · exact h
          · exact Or.inr
        show _ = minG (fun x => cfD H x.toNat) (if cfD H ((v : Nat) : Int).toNat < cfD H ((u : Nat) : Int).toNat then (v : Int) else (u : Int)) _
        simp only [Int.toNat_natCast]
        by_cases hc : cfD H v < cfD H u
        · rw [if_pos (e.2 hc), if_pos hc, rg_pick hN h r _ hr (Or.inr ⟨v, rfl, hv, hL⟩), if_neg (by omega)]
        · rw [if_neg (fun h => hc (e.1 h)), if_neg hc, rg_pick hN h r _ hr (Or.inr ⟨u, rfl, hu, hLu⟩), if_neg (by omega)]
theorem pick_lwV (H : Nat → Nat) (l : List Int) (hl : 0 < l.length) : pick (fun x => cfD H x.toNat) l = lwV H l := by
  cases l with
  | nil => cases hl
  | cons x r => rfl
theorem lw_all {N : Nat} (hN : N ≤ 16) (G : Nat → Nat) : ∀ (m : Nat) (H : Nat → Nat) (L : Nat) (w : Int), Sim N H G L → (leftL N L).length = m → lwL m H (leftL N L) w = rlL N G m L w
  | 0, _, _, _, _, _ => rfl
  | m + 1, H, L, w, h, hm => by
    have hv := lwV_mem H (leftL N L) (by omega)
    obtain ⟨v, e, hvN, hL⟩ := leftL_mem.1 hv
    have e2 : rgI false N G L 0 (-1) = (v : Int) := by
      unfold rgI
      rw [rg_pick hN h (List.range' 0 (N - 0)) (-1) (fun v hv => by have := List.mem_range'_1.1 hv; omega) (Or.inl rfl), if_pos (by decide), ← e, ← pick_lwV H _ (by omega)]
      unfold leftL
      rw [List.range_eq_range']
      rfl
    have e3 : (leftL N L).erase (v : Int) = leftL N (cb L v) := leftL_erase hN hvN
    have hlen : (leftL N (cb L v)).length = m := by
      rw [← e3, List.length_erase_of_mem (e ▸ hv), hm]
      rfl
    show lwL m (cutF H (lwV H (leftL N L)).toNat) ((leftL N L).erase (lwV H (leftL N L))) (mx w (cfD H (lwV H (leftL N L)).toNat)) = rlL N G m (cb L (rgI false N G L 0 (-1)).toNat) (mx w ((nb G L N (rgI false N G L 0 (-1)).toNat).length : Int))
    rw [e, e2, Int.toNat_natCast, e3, costD N H G L v hN h hvN hL]
    exact lw_all hN G m _ _ _ (h.cut hN v) hlen
theorem lower_same (n : Int) (l : List (List Int)) : rlowerF n l = lowerF n l := by
  unfold rlowerF lowerF
  cases hR : rightF n l with
  | false => rfl
  | true =>
    have hT := rightF_true hR
    obtain ⟨N, rfl⟩ := Int.eq_ofNat_of_zero_le hT.1
    rw [Int.toNat_natCast, if_pos rfl, if_pos rfl, ← leftL_all N]
    rw [lw_all (by omega) (ofG l) N (ofG l) (2 ^ N - 1) 0 (sim_start N (by omega) l (fun x hx => (hT.2.2.2 x hx).2)) (by rw [leftL_all, idL_len])]
/-- A permutation is an order. -/
theorem alL_od {N : Nat} : ∀ (o : List Int) (seen : Nat), o.Nodup → (∀ x ∈ o, 0 ≤ x ∧ x < (N : Int)) → (∀ x ∈ o, seen.testBit x.toNat = false) → (alL N seen o).isSome = true
  | [], seen, _, _, _ => rfl
  | v :: r, seen, hn, hr, hs => by
    obtain ⟨h1, h2⟩ := List.nodup_cons.1 hn
    have hv := hr v List.mem_cons_self
    unfold alL
    rw [if_neg (by omega), if_neg (by rw [hs v List.mem_cons_self]; simp)]
    refine alL_od r _ h2 (fun x hx => hr x (List.mem_cons_of_mem _ hx)) (fun x hx => ?_)
    rw [sb_bit, hs x (List.mem_cons_of_mem _ hx)]
    have hx0 := hr x (List.mem_cons_of_mem _ hx)
    have : x.toNat ≠ v.toNat := fun e => h1 (by have : x = v := by omega
                                                rw [← this]; exact hx)
    simp [this]
theorem allF_od {N : Nat} {o : List Int} (h : OdP N o) (hl : o.length = N) : allF N o = true := by
  unfold allF
  rw [Bool.and_eq_true, decide_eq_true_eq]
  exact ⟨alL_od o 0 h.nd h.rg (fun x _ => Nat.zero_testBit _), by omega⟩
/-- What Chordal says. -/
def chordF (n : Int) (l : List (List Int)) : Bool × Int := if rightF n l then (decide ((playedF n l (greedyF cfF n l).1).2.1.length = 0), 0) else (false, 1)
/-- The best of what has been looked at. -/
def RgP (N : Nat) (G : Nat → Nat) (L k : Nat) (b : Int) : Prop := (b = -1 ∧ ∀ x, x < k → L.testBit x = false) ∨ ∃ u : Nat, b = (u : Int) ∧ u < k ∧ L.testBit u = true ∧ (∀ x, x < k → L.testBit x = true → (rfill G L N u).length ≤ (rfill G L N x).length) ∧ ∀ x, x < u → L.testBit x = true → (rfill G L N u).length < (rfill G L N x).length
theorem rg_best (N : Nat) (G : Nat → Nat) (L : Nat) : ∀ (d k : Nat) (b : Int), N - k = d → k ≤ N → RgP N G L k b → RgP N G L N (rgI true N G L k b) := by
  intro d
  induction d with
  | zero =>
    intro k b hd hk h
    obtain rfl : k = N := by omega
    rw [rgI_end]
    exact h
  | succ d ih =>
    intro k b hd hk h
    rw [rgI_step true N G L k b (by omega)]
    refine ih (k + 1) _ (by omega) (by omega) ?_
    unfold rgS
    cases hL : L.testBit k with
    | false =>
      simp only [Bool.false_eq_true, if_false]
      rcases h with ⟨h1, h2⟩ | ⟨u, h1, h2, h3, h4, h5⟩
      · refine Or.inl ⟨h1, fun x hx => ?_⟩
        by_cases e : x = k
        · rw [e]; exact hL
        · exact h2 x (by omega)
      · refine Or.inr ⟨u, h1, by omega, h3, fun x hx hLx => ?_, h5⟩
        by_cases e : x = k
        · rw [e, hL] at hLx; cases hLx
        · exact h4 x (by omega) hLx
    | true =>
      simp only [if_true]
      rcases h with ⟨h1, h2⟩ | ⟨u, h1, h2, h3, h4, h5⟩
      · rw [if_pos (Or.inl (by omega))]
        refine Or.inr ⟨k, rfl, by omega, hL, fun x hx hLx => ?_, fun x hx hLx => by rw [h2 x hx] at hLx; cases hLx⟩
        by_cases e : x = k
        · rw [e]; exact Nat.le_refl _
        · rw [h2 x (by omega)] at hLx; cases hLx
      · subst h1
        rw [Int.toNat_natCast]
        unfold rcF
        simp only [if_true]
        by_cases hc : (rfill G L N k).length < (rfill G L N u).length
        · rw [if_pos (Or.inr (by omega))]
          refine Or.inr ⟨k, rfl, by omega, hL, fun x hx hLx => ?_, fun x hx hLx => ?_⟩
          · by_cases e : x = k
            · rw [e]; exact Nat.le_refl _
            · have := h4 x (by omega) hLx; omega
          · have := h4 x (by omega) hLx; omega
        · rw [if_neg (by omega)]
          refine Or.inr ⟨u, rfl, by omega, h3, fun x hx hLx => ?_, h5⟩
          by_cases e : x = k
          · rw [e]; omega
          · exact h4 x (by omega) hLx
theorem rchI_some {N : Nat} {G : Nat → Nat} {L u : Nat} (hu : u < N) (h : rchT N G L u = true) (h2 : ∀ x, x < u → rchT N G L x = false) : ∀ (d k : Nat), u - k = d → k ≤ u → rchI N G L k = some u := by
  intro d
  induction d with
  | zero =>
    intro k hd hk
    obtain rfl : k = u := by omega
    rw [rchI_step N G L k hu, if_pos h]
  | succ d ih =>
    intro k hd hk
    rw [rchI_step N G L k (by omega), if_neg (by rw [h2 k (by omega)]; simp)]
    exact ih (k + 1) (by omega) (by omega)
theorem rchI_none {N : Nat} {G : Nat → Nat} {L : Nat} (h2 : ∀ x, x < N → rchT N G L x = false) : ∀ (d k : Nat), N - k = d → k ≤ N → rchI N G L k = none := by
  intro d
  induction d with
  | zero =>
    intro k hd hk
    obtain rfl : k = N := by omega
    exact rchI_end _ _ _
  | succ d ih =>
    intro k hd hk
    rw [rchI_step N G L k (by omega), if_neg (by rw [h2 k (by omega)]; simp)]
    exact ih (k + 1) (by omega) (by omega)
theorem rpl_len (N : Nat) : ∀ (o : List Int) (G : Nat → Nat) (L : Nat) (w : Int) (f : List (Int × Int)), f.length ≤ (rplL N G L w f o).2.length
  | [], _, _, _, f => Nat.le_refl _
  | v :: r, G, L, w, f => by
    refine Nat.le_trans ?_ (rpl_len N r _ _ _ _)
    rw [List.length_append]
    omega
/-- The greedy order has no fill just if the simplicial ones can be taken out one by one. -/
theorem ch_all {N : Nat} (hN : N ≤ 16) : ∀ (m : Nat) (G : Nat → Nat) (L : Nat) (out : List Int), (∀ j, j < N → L.testBit j = !decide ((j : Int) ∈ out)) → OdP N out → out.length + m = N →
    ∃ r, rgL true N m G L out = out ++ r ∧ ∀ w f, ((rplL N G L w f r).2.length = f.length ↔ rchL N G m L = true)
  | 0, G, L, out, _, _, _ => ⟨[], by simp [rgL], fun w f => by simp [rplL, rchL]⟩
  | m + 1, G, L, out, ho, hd, hl => by
    obtain ⟨s, hs, hsm⟩ := od_free hd (by omega)
    have hLs : L.testBit s = true := by rw [ho s hs]; simp [hsm]
    have hb := rg_best N G L (N - 0) 0 (-1) rfl (by omega) (Or.inl ⟨rfl, fun x hx => by omega⟩)
    rcases hb with ⟨_, hb⟩ | ⟨u, h1, h2, h3, h4, h5⟩
    · rw [hb s hs] at hLs; cases hLs
    · have hun : (u : Int) ∉ out := fun hm => by rw [ho u h2] at h3; simp [hm] at h3
      obtain ⟨r, hr, hw⟩ := ch_all hN m (addL G (rfill G L N u)) (cb L u) (out ++ [(u : Int)]) (fun j hj => by
        rw [cb_bit L u j (by omega), ho j hj]
        by_cases hj2 : j = u
        · subst hj2; simp
        · have : ((j : Int) = (u : Int)) ↔ False := ⟨fun h => by omega, False.elim⟩
          simp [hj2, this]) (hd.push (by omega) (by omega) (by omega) hun) (by rw [List.length_append]; simp; omega)
      refine ⟨(u : Int) :: r, ?_, fun w f => ?_⟩
      · unfold rgL
        rw [h1, Int.toNat_natCast, hr, List.append_assoc]
        rfl
      · rw [rplL_cons]
        by_cases hz : (rfill G L N u).length = 0
        · have hT : rchT N G L u = true := by unfold rchT; rw [h3, hz]; rfl
          have hI : rchI N G L 0 = some u := rchI_some h2 hT (fun x hx => by
            unfold rchT
            cases hLx : L.testBit x with
            | false => rfl
            | true =>
              have := h5 x hx hLx
              rw [decide_eq_false (by omega)]
              rfl) (u - 0) 0 rfl (by omega)
          have hc : rchL N G (m + 1) L = rchL N G m (cb L u) := by
            show (match rchI N G L 0 with | none => false | some v => rchL N G m (cb L v)) = _
            rw [hI]
          have hnil : rfill G L N u = [] := List.length_eq_zero_iff.1 hz
          have := hw (mx w ((nb G L N u).length : Int)) (f ++ rfill G L N u)
          rw [hnil] at this ⊢
          rw [List.append_nil] at this ⊢
          rw [this, hc]
          rfl
        · have hI : rchI N G L 0 = none := rchI_none (fun x hx => by
            unfold rchT
            cases hLx : L.testBit x with
            | false => rfl
            | true =>
              have := h4 x hx hLx
              rw [decide_eq_false (by omega)]
              rfl) (N - 0) 0 rfl (by omega)
          have hc : rchL N G (m + 1) L = false := by
            show (match rchI N G L 0 with | none => false | some v => rchL N G m (cb L v)) = _
            rw [hI]
          rw [hc]
          have := rpl_len N r (addL G (rfill G L N u)) (cb L u) (mx w ((nb G L N u).length : Int)) (f ++ rfill G L N u)
          rw [List.length_append] at this
          constructor
          · intro h; omega
          · intro h; cases h
theorem chord_same (n : Int) (l : List (List Int)) : rchordF n l = chordF n l := by
  unfold rchordF chordF
  cases hR : rightF n l with
  | false => rfl
  | true =>
    have hT := rightF_true hR
    have hgo := greedy_od (cf := cfF) hR
    obtain ⟨N, rfl⟩ := Int.eq_ofNat_of_zero_le hT.1
    rw [Int.toNat_natCast] at hgo ⊢
    rw [if_pos rfl, if_pos rfl]
    congr 1
    have hA := allF_od hgo.1 hgo.2.1
    rw [← played_same]
    obtain ⟨r, hr, hw⟩ := ch_all (show N ≤ 16 by omega) N (ofG l) (2 ^ N - 1) [] (fun j hj => by rw [Nat.testBit_two_pow_sub_one]; simp [hj]) ⟨List.nodup_nil, fun x hx => absurd hx List.not_mem_nil, Nat.zero_le _⟩ (by simp)
    have hg : (greedyF cfF (N : Int) l).1 = r := by
      rw [← greedy_same costF]
      unfold rgreedyF
      rw [hR, if_pos rfl, Int.toNat_natCast]
      exact hr
    rw [hg] at hA ⊢
    have hp : playedR (N : Int) l r = ((rplL N (ofG l) (2 ^ N - 1) 0 [] r).1, (rplL N (ofG l) (2 ^ N - 1) 0 [] r).2, 0) := by unfold playedR; rw [hR, hA]; rfl
    rw [hp]
    have := hw 0 []
    rw [Bool.eq_iff_iff, ← this, decide_eq_true_eq]
    rfl
end
section
set_option linter.unusedVariables false
set_option linter.unusedSimpArgs false
open Go.RowKit Go.Proofs.YtnnaakinchophaaW.PrintWords Go.Proofs.YtnnaakinchophaaW.PrintLast Go.Proofs.YtnnaakinchophaaW.PrintMore
set_option maxHeartbeats 4000000 in
set_option maxRecDepth 100000 in
theorem chordal_calls (n : Int) (A : Option Addr) (c : Nat) (l : List (List Int)) (w : World) (hr : Kd.C kl w A l.length l) (hc : l.length ≤ c) :
    Calls Try.prog 34 #[.int .i64 n, .slice A l.length c] w fun e w' => e = .returned (.tuple #[.bool (chordF n l).1, .int .i64 (chordF n l).2]) ∧ Below w.heap.size w w' := by
  have H1 := Aside0.mk (minFill_calls n A c l w hr hc)
  have HR := Aside0.mk hr
  cases hR : rightF n l with
  | false =>
    have hE : chordF n l = (false, 1) := by unfold chordF; rw [hR]; rfl
    have hG : greedyF cfF n l = ([], 1) := by unfold greedyF; rw [hR]; rfl
    rw [hG] at H1
    rw [hE]
    clear hr hR hE hG
    go_enter Try.func34, Try.ntmps34
    go_wp2_with fail
    refine H1.out.mono ?_
    rintro e w1 ⟨v1, rfl, hR1, hB1⟩
    have HB := Aside0.mk hB1
    clear hR1 hB1 H1
    go_wp2
    go_ret2
    exact ⟨rfl, HB.out⟩
  | true =>
    have hE : chordF n l = (decide ((playedF n l (greedyF cfF n l).1).2.1.length = 0), 0) := by unfold chordF; rw [hR]; rfl
    have hG : (greedyF cfF n l).2 = 0 := (greedy_od hR).2.2
    rw [hG] at H1
    rw [hE]
    generalize (greedyF cfF n l).1 = o at *
    clear hr hR hE hG
    obtain ⟨P, hP⟩ : ∃ P, playedF n l o = P := ⟨_, rfl⟩
    have HP := Aside0.mk hP
    rw [hP]
    obtain ⟨P1, P2, P3⟩ := P
    clear hP
    go_enter Try.func34, Try.ntmps34
    go_wp2_with fail
    refine H1.out.mono ?_
    rintro e w1 ⟨v1, rfl, hR1, hB1⟩
    obtain ⟨a1, c1, rfl, hc1, hC1⟩ := Kd.R_reads hR1
    have HB := Aside0.mk hB1
    have H2 := Aside0.mk (fill_calls n A c l a1 c1 o w1 (Kd.C_below HR.out hB1) hc hC1)
    rw [HP.out] at H2
    clear hR1 hB1 H1 hC1
    go_wp2_with fail
    refine H2.out.mono ?_
    rintro e w2 ⟨v2, rfl, hR2, hB2⟩
    obtain ⟨a2, c2, rfl, hc2, hC2⟩ := Kd.R_reads hR2
    have HB2 := Aside0.mk (below_step HB.out hB2)
    have hz : (((P2.length : Nat) : Int) == 0) = decide (P2.length = 0) := by
      rw [Bool.eq_iff_iff, beq_iff_eq, decide_eq_true_eq]
      omega
    have HZ := Aside0.mk hz
    clear hR2 hB2 H2 hC2 HB hz
    go_wp2
    go_ret2
    exact ⟨by first | rfl | (rw [← HZ.out]; rfl) | (rw [← HZ.out]; simp), HB2.out⟩
end
end Go.Proofs.Ytnnaakinchophaa.Ord
