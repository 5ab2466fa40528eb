/- The program's own functions of layer 27, walked: what each does to masks in memory; conditions as written. -/
import Derived.Test.YtnnaakinchophaaOrdA
namespace Go.Proofs.Ytnnaakinchophaa.Ord
set_option linter.unusedVariables false
open Go.RowKit Go.Proofs.YtnnaakinchophaaW.PrintWords Go.Proofs.YtnnaakinchophaaW.PrintLast Go.Proofs.YtnnaakinchophaaW.PrintMore

theorem and255 (Y : Nat) (hY : Y < 4294967296) : Go.bits .and .u32 (Y : Int) 255 = ((Y % 256 : Nat) : Int) := by
  have h := bits_mask .u32 32 (by decide) (fun n h0 h1 => by rw [IntKind.wrap_u32]; omega) 8 (by decide) (Y : Int) (by omega) (by omega)
  have e1 : ((2 : Int) ^ 8 - 1) = 255 := rfl
  rw [e1] at h
  rw [h]
  have e2 : ((2 : Int) ^ 8) = 256 := rfl
  rw [e2]
  omega
theorem ptab_int (a : Int) (h0 : 0 ≤ a) (h1 : a < 256) (h : a.toNat < ptab.size) : (ptab[a.toNat]'h).toNat = p8 a.toNat := ptab_get a.toNat (by omega) h
theorem p8_zero : p8 0 = 0 := by decide
theorem cnt_sum (X : Nat) (hX : X < 65536) (a b c d : Int) (ha : (X : Int) / 16777216 = a) (hb : Go.bits .and .u32 ((X : Int) / 65536) 255 = b) (hc : Go.bits .and .u32 ((X : Int) / 256) 255 = c) (hd : Go.bits .and .u32 (X : Int) 255 = d)
  (ha' : a.toNat < ptab.size) (hb' : b.toNat < ptab.size) (hc' : c.toNat < ptab.size) (hd' : d.toNat < ptab.size) :
  (((ptab[a.toNat]'ha').toNat : Int) + ((ptab[b.toNat]'hb').toNat : Int) + ((ptab[c.toNat]'hc').toNat : Int) + ((ptab[d.toNat]'hd').toNat : Int)) % 256 = ((popc X : Nat) : Int) := by
  have e1 : (X : Int) / 65536 = ((X / 65536 : Nat) : Int) := by omega
  have e2 : (X : Int) / 256 = ((X / 256 : Nat) : Int) := by omega
  rw [e1, and255 _ (by omega)] at hb
  rw [e2, and255 _ (by omega)] at hc
  rw [and255 _ (by omega)] at hd
  have a0 : a = 0 := by omega
  have b0 : b = 0 := by omega
  have c0 : c = ((X / 256 : Nat) : Int) := by omega
  have d0 : d = ((X % 256 : Nat) : Int) := by omega
  subst a0 b0 c0 d0
  rw [ptab_int _ (by omega) (by omega), ptab_int _ (by omega) (by omega), ptab_int _ (by omega) (by omega)]
  rw [popc_split, Int.toNat_natCast, Int.toNat_natCast, show (0 : Int).toNat = 0 from rfl, p8_zero]
  have := p8_le (X / 256)
  have := p8_le (X % 256)
  omega
set_option maxHeartbeats 4000000 in
set_option maxRecDepth 100000 in
theorem cnt_calls (X : Nat) (w : World) (hX : X < 65536) : Calls Try.prog 64 #[.int .u32 (X : Int)] w fun e w' => e = .returned (.int .i64 (popc X : Nat)) ∧ Drawn0 w w' := by
  obtain ⟨a, ha⟩ : ∃ a : Int, (X : Int) / 16777216 = a := ⟨_, rfl⟩
  obtain ⟨b, hb⟩ : ∃ a : Int, Go.bits .and .u32 ((X : Int) / 65536) 255 = a := ⟨_, rfl⟩
  obtain ⟨c, hc⟩ : ∃ a : Int, Go.bits .and .u32 ((X : Int) / 256) 255 = a := ⟨_, rfl⟩
  obtain ⟨d, hd⟩ : ∃ a : Int, Go.bits .and .u32 (X : Int) 255 = a := ⟨_, rfl⟩
  have e1 : (X : Int) / 65536 = ((X / 65536 : Nat) : Int) := by omega
  have e2 : (X : Int) / 256 = ((X / 256 : Nat) : Int) := by omega
  have la : 0 ≤ a ∧ a < 256 := by omega
  have lb : 0 ≤ b ∧ b < 256 := by rw [e1, and255 _ (by omega)] at hb; omega
  have lc : 0 ≤ c ∧ c < 256 := by rw [e2, and255 _ (by omega)] at hc; omega
  have ld : 0 ≤ d ∧ d < 256 := by rw [and255 _ (by omega)] at hd; omega
  obtain ⟨la0, la1⟩ := la
  obtain ⟨lb0, lb1⟩ := lb
  obtain ⟨lc0, lc1⟩ := lc
  obtain ⟨ld0, ld1⟩ := ld
  have HS := Aside0.mk (cnt_sum X hX a b c d ha hb hc hd (by rw [ptab_size]; omega) (by rw [ptab_size]; omega) (by rw [ptab_size]; omega) (by rw [ptab_size]; omega))
  clear e1 e2
  go_enter Try.func64, Try.ntmps64
  go_wp2
  go_quiet (fail)
  go_wp2
  go_ret
  refine ⟨?_, ⟨⟨_, rfl⟩⟩⟩
  rw [← HS.out]
  rfl

set_option maxHeartbeats 400000 in
theorem degree_calls (g v : Nat) (G : Nat → Nat) (w : World) (hg : Arr w g G) (hv : v < 16) (hG : G v < 65536) :
   Calls Try.prog 55 #[.pointer (some ⟨g, 0, none⟩), .int .i64 (v : Int)] w fun e w' => e = .returned (.int .i64 (popc (G v) : Nat)) ∧ Drawn0 w w' := by
  have hcv := hg.cell v hv
  go_enter Try.func55, Try.ntmps55
  go_wp2_with (go_at_call 64; (with_reducible refine (cnt_calls _ _ hG).mono ?_); rintro e w1 ⟨rfl, ⟨n, rfl⟩⟩)
  go_ret
  exact ⟨rfl, ⟨⟨_, rfl⟩⟩⟩

/-! ### Worlds that differ from an elder one by one block alone -/
theorem gb_refl (w : World) (r : Option Nat) : w.grownBy w r := World.grownBy.refl w r
theorem gb_set {w w1 : World} {g : Nat} (h : w.grownBy w1 (some g)) (i : Nat) (u : Value) : w.grownBy (w1.setCell ⟨g, i, none⟩ u) (some g) := by
  have e := Below.heap_setCell w1 ⟨g, i, none⟩ u
  have hs := setCells_same g [u] i w1
  refine ⟨hs.1.trans h.os, hs.2.1.trans h.tape, hs.2.2.1.trans h.output, by have e2 : (w1.setCell ⟨g, i, none⟩ u).heap.size = w1.heap.size := hs.2.2.2; rw [e2]; exact h.size, fun k hk hne => ?_⟩
  exact (e k (fun hh => hne (by rw [hh]))).trans (h.block k hk hne)
theorem gb_drew {w w1 : World} {r : Option Nat} (h : w.grownBy w1 r) : w.grownBy w1.drew r := ⟨h.os, h.tape, h.output, h.size, h.block⟩
theorem gb_drewN {w w1 : World} {r : Option Nat} (h : w.grownBy w1 r) (n : Nat) : w.grownBy (w1.drewN n) r := ⟨h.os, h.tape, h.output, h.size, h.block⟩
theorem gb_trans {w w1 w2 : World} {r : Option Nat} (h : w.grownBy w1 r) (k : w1.grownBy w2 r) : w.grownBy w2 r := World.grownBy.trans h k
theorem gb_below {w w1 w2 : World} {r : Option Nat} (h : w.grownBy w1 r) (k : Below w1.heap.size w1 w2) : w.grownBy w2 r := gb_trans h (grown_of_below k r)
theorem gb_alloc {w w1 : World} {r : Option Nat} (h : w.grownBy w1 r) (o : Obj) : w.grownBy (w1.alloc o) r := gb_trans h (World.grownBy_alloc w1 o r)

def cutG (G : Nat → Nat) (v k : Nat) : Nat → Nat := fun i => if i < k then cb (G i) v else G i
theorem cutG_step (G : Nat → Nat) (v k : Nat) : up (cutG G v k) k (cb (cutG G v k k) v) = cutG G v (k + 1) := by
  funext i
  unfold up cutG
  by_cases h : i = k
  · subst h; simp
  · rw [if_neg h]
    by_cases h2 : i < k
    · rw [if_pos h2, if_pos (by omega)]
    · rw [if_neg h2, if_neg (by omega)]
theorem cutG_lt {G : Nat → Nat} (hG : ∀ i, G i < 65536) (v k i : Nat) : cutG G v k i < 65536 := by
  unfold cutG
  split
  · exact cb_lt (hG i)
  · exact hG i
/-- The graph without v. -/
def cutF (G : Nat → Nat) (v : Nat) : Nat → Nat := up (cutG G v 16) v 0
theorem cutF_lt {G : Nat → Nat} (hG : ∀ i, G i < 65536) (v i : Nat) : cutF G v i < 65536 := by
  unfold cutF up
  split
  · decide
  · exact cutG_lt hG v 16 i
theorem mod32 {v : Nat} (hv : v < 16) : (2 : Int) ^ v % 4294967296 = 2 ^ v := by
  rw [pow_cast]
  have h1 : 2 ^ v < 65536 := pow_lt hv
  have h2 : ((2 ^ v : Nat) : Int) < ((4294967296 : Nat) : Int) := Int.ofNat_lt.2 (Nat.lt_trans h1 (by decide))
  exact Int.emod_eq_of_lt (Int.natCast_nonneg _) h2
set_option maxHeartbeats 4000000 in
set_option maxRecDepth 100000 in
theorem cut_calls (g : Nat) (v : Nat) (G : Nat → Nat) (w : World) (hg : Arr w g G) (hv : v < 16) (hG : ∀ i, G i < 65536) :
   Calls Try.prog 61 #[.pointer (some ⟨g, 0, none⟩), .int .i64 (v : Int)] w fun e w' => e = .returned (.tuple #[]) ∧ Arr w' g (cutF G v) ∧ w.grownBy w' (some g) := by
  have hm := mod32 hv
  go_enter Try.func61, Try.ntmps61
  go_wp2
  go_loopw [5] (fun s5 wr => ∃ k : Nat, k ≤ 16 ∧ s5 = .int .i64 (k : Int) ∧ Arr wr g (cutG G v k) ∧ w.grownBy wr (some g)) (fun s5 _ => (16 - (intOf s5).toNat))
  case atStart => exact ⟨0, by omega, rfl, hg, gb_refl _ _⟩
  case round =>
    obtain ⟨k, hk, rfl, hg', hbel⟩ := hrel
    by_cases hlt : k < 16
    · have hck := hg'.cell k hlt
      have hfk := hg'.thaw k
      have hor := andNot_pow (cutG G v k k) v (Nat.lt_trans (cutG_lt hG v k k) (by decide)) (by omega)
      go_wp2
      go_region
      go_wp2
      go_roundw
      case rel =>
        refine ⟨k + 1, by omega, by go_num, ?_, gb_drew (gb_set hbel _ _)⟩
        have := (hg'.set k (cb (cutG G v k k) v) hlt).drew
        rwa [cutG_step] at this
      case measure => simp [intOf]; omega
    · obtain rfl : k = 16 := by omega
      have hcv := hg'.cell v hv
      have hfv := hg'.thaw v
      go_wp2
      go_end0
      exact ⟨rfl, hg'.set v 0 hv, gb_set hbel _ _⟩

/-! ### missing -/
def kp : Kd (Int × Int) := Kd.pair (Kd.int .i64) (Kd.int .i64)
theorem info48 : (Try.prog.info? 48).map (fun i => (i.zero, i.size, i.bytes)) = some (some (.agg #[.int .i64 0, .int .i64 0]), 2, 16) := by kernel_rfl
theorem kp_mkM (w : World) (base : Nat) (ok : Nat → Prop) (a b : Int) : kp.M w base ok (a, b) [.int .i64 a, .int .i64 b] := ⟨[.int .i64 a], [.int .i64 b], rfl, rfl, rfl⟩
def pr (a b : Nat) : Int × Int := ((a : Int), (b : Int))
def misB (G : Nat → Nat) (v a k : Nat) : List (Int × Int) := ((List.range' k (16 - k)).filter fun b => (G v).testBit b && !(G a).testBit b).map (pr a)
def misA (G : Nat → Nat) (v k : Nat) : List (Int × Int) := (List.range' k (16 - k)).flatMap fun a => if (G v).testBit a then misB G v a (a + 1) else []
/-- The pairs of v's neighbors that are none themselves. -/
def mis (G : Nat → Nat) (v : Nat) : List (Int × Int) := misA G v 0
theorem misB_end (G : Nat → Nat) (v a : Nat) : misB G v a 16 = [] := by simp [misB]
theorem misB_step (G : Nat → Nat) (v a k : Nat) (hk : k < 16) : misB G v a k = (if (G v).testBit k && !(G a).testBit k then [pr a k] else []) ++ misB G v a (k + 1) := by
  unfold misB
  rw [show 16 - k = (16 - (k + 1)) + 1 by omega, List.range'_succ, List.filter_cons]
  split <;> simp_all
theorem misA_end (G : Nat → Nat) (v : Nat) : misA G v 16 = [] := rfl
theorem misA_step (G : Nat → Nat) (v k : Nat) (hk : k < 16) : misA G v k = (if (G v).testBit k then misB G v k (k + 1) else []) ++ misA G v (k + 1) := by
  unfold misA
  rw [show 16 - k = (16 - (k + 1)) + 1 by omega, List.range'_succ, List.flatMap_cons]
theorem misB_len (G : Nat → Nat) (v a k : Nat) : (misB G v a k).length ≤ 16 := by
  unfold misB
  rw [List.length_map]
  have h := List.length_filter_le (fun b => (G v).testBit b && !(G a).testBit b) (List.range' k (16 - k))
  rw [List.length_range'] at h
  omega
theorem misA_len (G : Nat → Nat) (v : Nat) : ∀ d k : Nat, 16 - k = d → (misA G v k).length ≤ 16 * d := by
  intro d
  induction d with
  | zero =>
    intro k hk
    unfold misA
    rw [hk]
    simp
  | succ d ih =>
    intro k hk
    rw [misA_step G v k (by omega), List.length_append]
    have h1 := ih (k + 1) (by omega)
    have h2 := misB_len G v k (k + 1)
    split
    · omega
    · simp only [List.length_nil]; omega
theorem mis_len (G : Nat → Nat) (v : Nat) : (mis G v).length ≤ 256 := misA_len G v 16 0 rfl

attribute [local go_sem] bit0 bit1
set_option maxHeartbeats 4000000 in
set_option maxRecDepth 100000 in
theorem missing_calls (g v : Nat) (G : Nat → Nat) (w : World) (hg : Arr w g G) (hv : v < 16) (hG : ∀ i, G i < 65536) :
   Calls Try.prog 58 #[.pointer (some ⟨g, 0, none⟩), .int .i64 (v : Int)] w fun e w' => ∃ v0, e = .returned v0 ∧ Kd.R kp 48 w' w.heap.size (fun _ => True) v0 (mis G v) ∧ Below w.heap.size w w' := by
  have hcv := hg.cell v hv
  have hlt0 := hg.lt
  go_enter Try.func58, Try.ntmps58
  go_wp2
  go_loopw [5, 8] (fun s5 s8 wr => ∃ k : Nat, ∃ acc : List (Int × Int), k ≤ 16 ∧ s8 = .int .i64 (k : Int) ∧ Aside0 (acc ++ misA G v k = mis G v) ∧ Aside0 (Kd.R kp 48 wr w.heap.size (fun _ => True) s5 acc) ∧ Aside0 (Below w.heap.size w wr)) (fun _ s8 _ => (16 - (intOf s8).toNat))
  case atStart => exact ⟨0, [], by omega, rfl, ⟨rfl⟩, ⟨Kd.R_nil _ _ _ _ _⟩, ⟨Below.refl _ _⟩⟩
  case round =>
    obtain ⟨k, acc, hk, rfl, HA, HR, HB⟩ := hrel
    have hcv' : wr.cell? ⟨g, v, none⟩ = some (.int .u32 (G v)) := (HB.out.cell (p := ⟨g, v, none⟩) hlt0).trans hcv
    by_cases hlt : k < 16
    · have hkd : decide ((k : Int) < 16) = true := decide_eq_true (by omega)
      cases htb : (G v).testBit k with
      | false =>
        go_wp2
        go_roundw
        case rel =>
          refine ⟨k + 1, acc, by omega, by go_num, ⟨?_⟩, HR, HB⟩
          rw [← HA.out, misA_step G v k (by omega), htb]
          simp
        case measure => simp [intOf]; omega
      | true =>
        go_wp2
        obtain ⟨wo, rfl⟩ : ∃ wo : World, wo = wr := ⟨_, rfl⟩
        have hT : Aside0 (acc ++ (misB G v k (k + 1) ++ misA G v (k + 1)) = mis G v) := ⟨by rw [← HA.out, misA_step G v k (by omega), htb]; simp⟩
        clear HA
        go_loopw [5, 7] (fun s5 s7 wr => ∃ b : Nat, ∃ acc : List (Int × Int), b ≤ 16 ∧ s7 = .int .i64 (b : Int) ∧ Aside0 (acc ++ (misB G v k b ++ misA G v (k + 1)) = mis G v) ∧ Aside0 (Kd.R kp 48 wr w.heap.size (fun _ => True) s5 acc) ∧ Aside0 (Below w.heap.size w wr)) (fun _ s7 _ => (16 - (intOf s7).toNat))
        case atStart => exact ⟨k + 1, acc, by omega, by go_num, hT, HR, HB⟩
        case round =>
          clear hT HR HB acc hcv' wo
          obtain ⟨b, acc, hb, rfl, HA, HR, HB⟩ := hrel
          have hcv' : wr.cell? ⟨g, v, none⟩ = some (.int .u32 (G v)) := (HB.out.cell (p := ⟨g, v, none⟩) hlt0).trans hcv
          have hck : wr.cell? ⟨g, k, none⟩ = some (.int .u32 (G k)) := (HB.out.cell (p := ⟨g, k, none⟩) hlt0).trans (hg.cell k hlt)
          clear hcv
          by_cases hltb : b < 16
          · have hTs := misB_step G v k b hltb
            cases htb2 : (G v).testBit b with
            | false =>
              have hT : Aside0 (acc ++ (misB G v k (b + 1) ++ misA G v (k + 1)) = mis G v) := ⟨by rw [← HA.out, hTs, htb2]; simp⟩
              clear hTs HA
              go_wp2
              go_roundw
              case rel => exact ⟨b + 1, acc, by omega, by go_num, hT, HR, HB⟩
              case measure => simp [intOf]; omega
            | true =>
              cases htb3 : (G k).testBit b with
              | true =>
                have hT : Aside0 (acc ++ (misB G v k (b + 1) ++ misA G v (k + 1)) = mis G v) := ⟨by rw [← HA.out, hTs, htb2, htb3]; simp⟩
                clear hTs HA
                go_wp2
                go_roundw
                case rel => exact ⟨b + 1, acc, by omega, by go_num, hT, HR, HB⟩
                case measure => simp [intOf]; omega
              | false =>
                have hT : Aside0 ((acc ++ [pr k b]) ++ (misB G v k (b + 1) ++ misA G v (k + 1)) = mis G v) := ⟨by rw [← HA.out, hTs, htb2, htb3]; simp⟩
                have hL : Aside0 (acc.length ≤ 256) := ⟨by
                  have h1 := mis_len G v
                  rw [← HA.out, List.length_append] at h1
                  omega⟩
                clear hTs HA
                go_wp2_with (at_builtin; refine Kd.R_append kp (w0 := w) w.heap.size rfl (.tmp 46) (.tmp 50) 35 48 (.agg #[.int .i64 0, .int .i64 0]) 16 rfl Try.underlying35 info48 rfl (by decide) (by omega) u5 acc (pr k b) [.int .i64 (k : Int), .int .i64 (b : Int)] (fun _ => True) (fun _ => False) rfl rfl ?aP (fun _ hk => hk.elim) ?aF ?aO ?aB ?aS ?aL ?_; (case aP => exact kp_mkM _ _ _ _ _); (case aF => exact (fun _ _ => trivial)); (case aO => exact HR.out); (case aB => exact HB.out); (case aS => exact HB.out.size); (case aL => have := hL.out; omega); intro v1 w1 ho hb1 hg1 hat1; have HR1 := Aside0.mk ho; have HB1 := Aside0.mk hb1; clear ho hb1 hg1 hat1 HR HB)
                go_roundw
                case rel => exact ⟨b + 1, _, by omega, by go_num, hT, HR1, HB1⟩
                case measure => simp [intOf]; omega
          · obtain rfl : b = 16 := by omega
            go_wp2
            go_roundw
            case rel => exact ⟨k + 1, acc, by omega, by go_num, ⟨by rw [← HA.out, misB_end, List.nil_append]⟩, HR, HB⟩
            case measure => simp [intOf]; omega
    · obtain rfl : k = 16 := by omega
      go_wp2
      go_ret
      refine ⟨_, rfl, ?_, HB.out⟩
      have := HA.out
      rw [misA_end, List.append_nil] at this
      rw [← this]
      exact HR.out
end Go.Proofs.Ytnnaakinchophaa.Ord
