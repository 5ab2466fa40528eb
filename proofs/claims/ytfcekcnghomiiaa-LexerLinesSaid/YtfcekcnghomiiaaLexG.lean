/- The plain scanner over a text that is cut off or goes on otherwise. -/
import Derived.Test.YtfcekcnghomiiaaLexF
namespace Go.Proofs.Ytfcekcnghomiiaa.Lx

theorem takeWhile_all (p : UInt8 → Bool) : ∀ (l : List UInt8) (x : UInt8), x ∈ l.takeWhile p → p x = true
  | [], x, h => by simp at h
  | c :: t, x, h => by
    by_cases hc : p c = true
    · rw [List.takeWhile_cons_of_pos hc] at h
      rcases List.mem_cons.1 h with h | h
      · rw [h]; exact hc
      · exact takeWhile_all p t x h
    · rw [List.takeWhile_cons_of_neg hc] at h; simp at h
theorem takeWhile_app (p : UInt8 → Bool) : ∀ (w z : List UInt8), (∀ c ∈ w, p c = true) → (z = [] ∨ ∃ d t, z = d :: t ∧ p d = false) → (w ++ z).takeWhile p = w ∧ (w ++ z).dropWhile p = z
  | [], z, _, hz => by
    rcases hz with rfl | ⟨d, t, rfl, hd⟩
    · exact ⟨rfl, rfl⟩
    · show (d :: t).takeWhile p = [] ∧ (d :: t).dropWhile p = d :: t
      have hd' : ¬ p d = true := by rw [hd]; decide
      rw [List.takeWhile_cons_of_neg hd', List.dropWhile_cons_of_neg hd']
      exact ⟨rfl, rfl⟩
  | c :: w, z, hw, hz => by
    have ih := takeWhile_app p w z (fun x hx => hw x (by simp [hx])) hz
    have hc := hw c (by simp)
    show (c :: (w ++ z)).takeWhile p = c :: w ∧ (c :: (w ++ z)).dropWhile p = z
    rw [List.takeWhile_cons_of_pos hc, List.dropWhile_cons_of_pos hc, ih.1, ih.2]
    exact ⟨rfl, rfl⟩
theorem takeWhile_next (p : UInt8 → Bool) : ∀ (l : List UInt8) (d : UInt8) (t : List UInt8), l.drop (l.takeWhile p).length = d :: t → p d = false
  | [], d, t, h => by simp at h
  | c :: l, d, t, h => by
    by_cases hc : p c = true
    · rw [List.takeWhile_cons_of_pos hc] at h
      exact takeWhile_next p l d t h
    · rw [List.takeWhile_cons_of_neg hc] at h
      cases h
      simpa using hc

theorem head_dropWhile (p : UInt8 → Bool) : ∀ (l : List UInt8) {c : UInt8} {t : List UInt8}, l.dropWhile p = c :: t → p c = false
  | [], c, t, h => by simp at h
  | b :: l, c, t, h => by
    by_cases hb : p b = true
    · rw [List.dropWhile_cons_of_pos hb] at h
      exact head_dropWhile p l h
    · rw [List.dropWhile_cons_of_neg hb] at h
      cases h
      simpa using hb

/-- What may follow a token's text, for it to stay what it is. -/
def Stop (l w z : List UInt8) : Prop := z = [] ∨ ∃ d t, z = d :: t ∧ (d = 32 ∨ d = 10 ∨ ∃ t', l.drop w.length = d :: t')

theorem Stop.no {l w z : List UInt8} (p : UInt8 → Bool) (hw : w = l.takeWhile p) (h32 : p 32 = false) (h10 : p 10 = false) (h : Stop l w z) : z = [] ∨ ∃ d t, z = d :: t ∧ p d = false := by
  rcases h with h | ⟨d, t, h, h2⟩
  · exact .inl h
  · refine .inr ⟨d, t, h, ?_⟩
    rcases h2 with rfl | rfl | ⟨t', h2⟩
    · exact h32
    · exact h10
    · rw [hw] at h2
      exact takeWhile_next p l d t' h2

theorem headD_app {w : List UInt8} (hw : w ≠ []) (z : List UInt8) : (w ++ z).headD 0 = w.headD 0 := by
  cases w with
  | nil => exact absurd rfl hw
  | cons c t => rfl
theorem headD_takeWhile {l : List UInt8} (p : UInt8 → Bool) (h : l.takeWhile p ≠ []) : (l.takeWhile p).headD 0 = l.headD 0 := by
  cases l with
  | nil => exact absurd rfl h
  | cons c t =>
    by_cases hc : p c = true
    · rw [List.takeWhile_cons_of_pos hc]; rfl
    · rw [List.takeWhile_cons_of_neg hc] at h; exact absurd rfl h

theorem has_twos {x : List UInt8} (h : has twos x = true) : ∃ a b, x = [a, b] ∧ hasB ones a = true ∧ b ≠ 32 ∧ b ≠ 10 ∧ sm a = false ∧ dg a = false := by
  have hm : x ∈ twos := List.contains_iff_mem.1 h
  simp only [twos, List.mem_cons, List.not_mem_nil, or_false] at hm
  rcases hm with rfl | rfl | rfl | rfl <;> exact ⟨_, _, rfl, by decide, by decide, by decide, by decide, by decide⟩

theorem sgn_ext {l w z : List UInt8} (hw : w = sgn l) (hne : w ≠ []) (h : Stop l w z) : sgn (w ++ z) = w := by
  unfold sgn at hw
  by_cases h2 : has twos (l.take 2) = true
  · rw [if_pos h2] at hw
    obtain ⟨a, b, hab, _⟩ := has_twos h2
    rw [hab] at hw
    rw [hab] at h2
    subst hw
    unfold sgn
    have : ([a, b] ++ z).take 2 = [a, b] := rfl
    rw [this, if_pos h2]
  · rw [if_neg h2] at hw
    by_cases h1 : hasB ones (l.headD 0) = true
    · rw [if_pos h1] at hw
      cases l with
      | nil => rw [hw] at hne; exact absurd rfl hne
      | cons c t =>
        have hwc : w = [c] := hw
        subst hwc
        have hc : hasB ones c = true := h1
        unfold sgn
        have ht2 : ¬ has twos (([c] ++ z).take 2) = true := by
          intro h3
          obtain ⟨a, b, hab, _, hb1, hb2, _⟩ := has_twos h3
          rcases h with rfl | ⟨d, t2, rfl, h4⟩
          · cases hab
          · have : d = b := by
              have : [c, d] = [a, b] := hab
              injection this with _ this
              injection this
            rcases h4 with e | e | ⟨t', h4⟩
            · exact hb1 (this ▸ e)
            · exact hb2 (this ▸ e)
            · have hd : t = d :: t' := h4
              apply h2
              rw [hd]
              exact h3
        rw [if_neg ht2, if_pos (show hasB ones (([c] ++ z).headD 0) = true from hc)]
        rfl
    · rw [if_neg h1] at hw
      exact absurd hw hne

/-- A token's text, followed by something else that ends it, is the same token. -/
theorem tok_ext {l w z : List UInt8} {k n : Int} (h : tok l = .ok k w n) (hz : Stop l w z) : tok (w ++ z) = .ok k w n := by
  obtain ⟨_, hne⟩ := tok_take h
  unfold tok at h
  by_cases h1 : sm (l.headD 0) = true
  · rw [if_pos h1] at h
    have hw : w = l.takeWhile nm := by
      split at h
      · cases h
      · split at h <;> (cases h; rfl)
    have htw := takeWhile_app nm w z (by rw [hw]; exact takeWhile_all nm l) (hz.no nm hw (by decide) (by decide))
    unfold tok
    rw [headD_app hne, hw, headD_takeWhile nm (hw ▸ hne), if_pos h1, ← hw, htw.1]
    rw [← hw] at h
    exact h
  · rw [if_neg h1] at h
    by_cases h2 : dg (l.headD 0) = true
    · rw [if_pos h2] at h
      have hw : w = l.takeWhile dg := by
        split at h
        · cases h
        · cases h; rfl
      have htw := takeWhile_app dg w z (by rw [hw]; exact takeWhile_all dg l) (hz.no dg hw (by decide) (by decide))
      unfold tok
      rw [headD_app hne, hw, headD_takeWhile dg (hw ▸ hne), if_neg h1, if_pos h2, ← hw, htw.1]
      rw [← hw] at h
      exact h
    · rw [if_neg h2] at h
      have hw : w = sgn l := by
        split at h
        · cases h
        · cases h; rfl
      have hh : w.headD 0 = l.headD 0 := by
        have := sgn_take l
        rw [← hw] at this
        cases l with
        | nil => rw [this] at hne; simp at hne
        | cons c t =>
          cases w with
          | nil => exact absurd rfl hne
          | cons a r => rw [List.length_cons, List.take_succ_cons] at this; injection this with e _
      have hs := sgn_ext hw hne hz
      unfold tok
      rw [headD_app hne, hh, if_neg h1, if_neg h2, hs, if_neg hne]
      rw [← hw, if_neg hne] at h
      exact h

/-- So is a fault's. -/
theorem tok_bad_ext {l w z : List UInt8} {e : Int} (h : tok l = .bad e w) (hl : l ≠ []) (hz : Stop l w z) : w ≠ [] ∧ w = l.take w.length ∧ tok (w ++ z) = .bad e w := by
  unfold tok at h
  by_cases h1 : sm (l.headD 0) = true
  · rw [if_pos h1] at h
    have hw : w = l.takeWhile nm := by
      split at h
      · cases h; rfl
      · split at h <;> cases h
    have hne : w ≠ [] := by
      rw [hw]
      cases l with
      | nil => exact absurd rfl hl
      | cons c t => rw [List.takeWhile_cons_of_pos (show nm c = true from sm_nm h1)]; simp
    have htw := takeWhile_app nm w z (by rw [hw]; exact takeWhile_all nm l) (hz.no nm hw (by decide) (by decide))
    refine ⟨hne, by rw [hw, takeWhile_len], ?_⟩
    unfold tok
    rw [headD_app hne, hw, headD_takeWhile nm (hw ▸ hne), if_pos h1, ← hw, htw.1]
    rw [← hw] at h
    exact h
  · rw [if_neg h1] at h
    by_cases h2 : dg (l.headD 0) = true
    · rw [if_pos h2] at h
      have hw : w = l.takeWhile dg := by
        split at h
        · cases h; rfl
        · cases h
      have hne : w ≠ [] := by
        rw [hw]
        cases l with
        | nil => exact absurd rfl hl
        | cons c t => rw [List.takeWhile_cons_of_pos (show dg c = true from h2)]; simp
      have htw := takeWhile_app dg w z (by rw [hw]; exact takeWhile_all dg l) (hz.no dg hw (by decide) (by decide))
      refine ⟨hne, by rw [hw, takeWhile_len], ?_⟩
      unfold tok
      rw [headD_app hne, hw, headD_takeWhile dg (hw ▸ hne), if_neg h1, if_pos h2, ← hw, htw.1]
      rw [← hw] at h
      exact h
    · rw [if_neg h2] at h
      cases l with
      | nil => exact absurd rfl hl
      | cons c t =>
        by_cases h3 : sgn (c :: t) = []
        · rw [if_pos h3] at h
          cases h
          refine ⟨by simp, rfl, ?_⟩
          have h1c : ¬ sm c = true := h1
          have h2c : ¬ dg c = true := h2
          have hoc : ¬ hasB ones c = true := by
            intro h4
            unfold sgn at h3
            by_cases h5 : has twos ((c :: t).take 2) = true
            · rw [if_pos h5] at h3; simp at h3
            · rw [if_neg h5, if_pos (show hasB ones ((c :: t).headD 0) = true from h4)] at h3; simp at h3
          have hs : sgn ([c] ++ z) = [] := by
            unfold sgn
            rw [if_neg, if_neg (show ¬ hasB ones (([c] ++ z).headD 0) = true from hoc)]
            intro h5
            obtain ⟨a, b, hab, ha, _⟩ := has_twos h5
            cases z with
            | nil => cases hab
            | cons d z =>
              have : [c, d] = [a, b] := hab
              injection this with e _
              exact hoc (e ▸ ha)
          show tok ([c] ++ z) = .bad 10 [c]
          unfold tok
          rw [if_neg (show ¬ sm (([c] ++ z).headD 0) = true from h1c), if_neg (show ¬ dg (([c] ++ z).headD 0) = true from h2c), if_pos hs]
          rfl
        · rw [if_neg h3] at h
          cases h

/-- How far it is to what stands behind so many newlines. -/
def pl : List UInt8 → Nat → Nat
  | _, 0 => 0
  | [], _ => 0
  | c :: t, n + 1 => 1 + pl t (if c.toNat = 10 then n else n + 1)

theorem pl_zero (l : List UInt8) : pl l 0 = 0 := by cases l <;> rfl
theorem pl_nl {c : UInt8} (h : c.toNat = 10) (t : List UInt8) (n : Nat) : pl (c :: t) (n + 1) = 1 + pl t n := by
  rw [pl, if_pos h]
theorem pl_skip : ∀ (u t : List UInt8) (n : Nat), (∀ c ∈ u, c.toNat ≠ 10) → pl (u ++ t) (n + 1) = u.length + pl t (n + 1)
  | [], t, n, _ => by simp
  | c :: u, t, n, h => by
    show pl (c :: (u ++ t)) (n + 1) = _
    rw [pl, if_neg (h c (by simp)), pl_skip u t n (fun x hx => h x (by simp [hx])), List.length_cons]
    omega

/-- Both lists begin alike, or the first is empty. -/
def Hd (r l : List UInt8) : Prop := r = [] ∨ ∃ d t t', r = d :: t ∧ l = d :: t'

theorem Hd.app {r l : List UInt8} (p : Nat) (h : Hd r (l.drop p)) : Hd (l.take p ++ r) l := by
  cases p with
  | zero => simpa using h
  | succ p =>
    cases l with
    | nil =>
      rcases h with rfl | ⟨d, t, t', _, h⟩
      · exact .inl rfl
      · simp at h
    | cons c l => exact .inr ⟨c, l.take p ++ r, l, rfl, rfl⟩

theorem tok_nonl {l : List UInt8} {k : Int} {w : List UInt8} {n : Int} (h : tok l = .ok k w n) : ∀ c ∈ w, c.toNat ≠ 10 := by
  have hnm : ∀ c : UInt8, nm c = true → c.toNat ≠ 10 := by
    intro c hc e
    simp [nm, sm, dg, e] at hc
  unfold tok at h
  by_cases h1 : sm (l.headD 0) = true
  · rw [if_pos h1] at h
    have hw : w = l.takeWhile nm := by
      split at h
      · cases h
      · split at h <;> (cases h; rfl)
    rw [hw]
    exact fun c hc => hnm c (takeWhile_all nm l c hc)
  · rw [if_neg h1] at h
    by_cases h2 : dg (l.headD 0) = true
    · rw [if_pos h2] at h
      have hw : w = l.takeWhile dg := by
        split at h
        · cases h
        · cases h; rfl
      rw [hw]
      exact fun c hc => hnm c (by have := takeWhile_all dg l c hc; simp [nm, this])
    · rw [if_neg h2] at h
      have hw : w = sgn l := by
        split at h
        · cases h
        · cases h; rfl
      rw [hw]
      unfold sgn
      by_cases h3 : has twos (l.take 2) = true
      · rw [if_pos h3]
        have hm : l.take 2 ∈ twos := List.contains_iff_mem.1 h3
        have : ∀ x ∈ twos, ∀ c ∈ x, c.toNat ≠ 10 := by decide
        exact this _ hm
      · rw [if_neg h3]
        by_cases h4 : hasB ones (l.headD 0) = true
        · rw [if_pos h4]
          cases l with
          | nil => simp
          | cons c t =>
            have : ∀ x ∈ ones, x.toNat ≠ 10 := by decide
            intro x hx
            have : x = c := by simpa using hx
            rw [this]
            exact (by assumption : ∀ x ∈ ones, x.toNat ≠ 10) c (hasB_iff.1 h4)
        · rw [if_neg h4]; simp

/-- Where a fault stands, and that the text ahead of it may go on otherwise. -/
theorem scan_fault : ∀ (m : Nat) (l : List UInt8) (line col : Int) (f : Flt), l.length ≤ m → scan l line col = .error f →
    ∃ p : Nat, (∃ c t, l.drop p = c :: t ∧ c.toNat ≠ 10 ∧ ws c = false ∧ c.toNat ≠ 35) ∧ tok (l.drop p) = .bad f.e f.text ∧ line ≤ f.line ∧ (p : Int) = pl l (f.line - line).toNat + (if f.line = line then f.col - col else f.col - 1) ∧
      ∀ r, Hd r (l.drop p) → ∃ pre : List Tok, scan (l.take p ++ r) line col = match scan r f.line f.col with | .error g => .error g | .ok ts => .ok (pre ++ ts) := by
  intro m
  induction m with
  | zero =>
    intro l line col f hl h
    cases l with
    | nil => rw [scan] at h; cases h
    | cons c t => simp at hl
  | succ m ih =>
    intro l line col f hl h
    cases l with
    | nil => rw [scan] at h; cases h
    | cons c t =>
      rw [List.length_cons] at hl
      rw [scan] at h
      by_cases c10 : c.toNat = 10
      · rw [if_pos c10] at h
        obtain ⟨p, h1, h2, h3, h4, h5⟩ := ih t _ _ f (by omega) h
        refine ⟨p + 1, h1, h2, by omega, ?_, ?_⟩
        · obtain ⟨n, hn⟩ : ∃ n : Nat, (f.line - (line + 1)).toNat = n := ⟨_, rfl⟩
          rw [show (f.line - line).toNat = n + 1 by omega, pl_nl c10, if_neg (by omega)]
          rw [hn] at h4
          split at h4 <;> omega
        · intro r hr
          obtain ⟨pre, hp⟩ := h5 r hr
          refine ⟨pre, ?_⟩
          show scan (c :: (t.take p ++ r)) line col = _
          rw [scan, if_pos c10]
          exact hp
      · rw [if_neg c10] at h
        by_cases cw : ws c = true
        · rw [if_pos cw] at h
          obtain ⟨p, h1, h2, h3, h4, h5⟩ := ih t _ _ f (by omega) h
          refine ⟨p + 1, h1, h2, h3, ?_, ?_⟩
          · by_cases hln : f.line = line
            · rw [if_pos hln] at h4 ⊢
              rw [show (f.line - line).toNat = 0 by omega, pl_zero] at h4 ⊢
              omega
            · rw [if_neg hln] at h4 ⊢
              obtain ⟨n, hn⟩ : ∃ n : Nat, (f.line - line).toNat = n + 1 := ⟨(f.line - line).toNat - 1, by omega⟩
              have := pl_skip [c] t n (by simpa using c10)
              rw [hn] at h4 ⊢
              rw [show c :: t = [c] ++ t from rfl, this, List.length_singleton]
              omega
          · intro r hr
            obtain ⟨pre, hp⟩ := h5 r hr
            refine ⟨pre, ?_⟩
            show scan (c :: (t.take p ++ r)) line col = _
            rw [scan, if_neg c10, if_pos cw]
            exact hp
        · rw [if_neg cw] at h
          by_cases c35 : c.toNat = 35
          · rw [if_pos c35] at h
            have hsplit : t.takeWhile nnl ++ t.dropWhile nnl = t := List.takeWhile_append_dropWhile
            have hall := takeWhile_all nnl t
            have hd : (t.dropWhile nnl).length ≤ t.length := (List.dropWhile_sublist nnl).length_le
            obtain ⟨p, h1, h2, h3, h4, h5⟩ := ih (t.dropWhile nnl) _ _ f (by omega) h
            generalize hu : t.takeWhile nnl = u at hsplit hall h4 h5
            generalize hv : t.dropWhile nnl = v at hsplit h1 h2 h4 h5
            have hvn : ∀ d t', v = d :: t' → nnl d = false := by
              intro d t' e
              exact head_dropWhile nnl t (hv.trans e)
            have hno : ∀ x ∈ c :: u, x.toNat ≠ 10 := by
              intro x hx
              rcases List.mem_cons.1 hx with hx | hx
              · rw [hx]; exact c10
              · have := hall x hx
                simpa [nnl] using this
            subst hsplit
            have hdr : (c :: (u ++ v)).drop (u.length + 1 + p) = v.drop p := by
              rw [show u.length + 1 + p = (c :: u).length + p by simp, ← List.drop_drop]
              show (((c :: u) ++ v).drop (c :: u).length).drop p = _
              rw [List.drop_left]
            refine ⟨u.length + 1 + p, by rw [hdr]; exact h1, by rw [hdr]; exact h2, h3, ?_, ?_⟩
            · by_cases hln : f.line = line
              · rw [if_pos hln] at h4 ⊢
                rw [show (f.line - line).toNat = 0 by omega, pl_zero] at h4 ⊢
                omega
              · rw [if_neg hln] at h4 ⊢
                obtain ⟨n, hn⟩ : ∃ n : Nat, (f.line - line).toNat = n + 1 := ⟨(f.line - line).toNat - 1, by omega⟩
                have := pl_skip (c :: u) v n hno
                rw [hn] at h4 ⊢
                rw [show c :: (u ++ v) = (c :: u) ++ v from rfl, this, List.length_cons]
                omega
            · intro r hr
              rw [hdr] at hr
              obtain ⟨pre, hp⟩ := h5 r hr
              refine ⟨pre, ?_⟩
              have htk : (c :: (u ++ v)).take (u.length + 1 + p) ++ r = c :: (u ++ (v.take p ++ r)) := by
                have : ((c :: u) ++ v).take ((c :: u).length + p) = (c :: u) ++ v.take p := List.take_length_add_append p
                rw [show u.length + 1 + p = (c :: u).length + p by simp]
                show ((c :: u) ++ v).take _ ++ r = _
                rw [this]
                simp
              have hz : v.take p ++ r = [] ∨ ∃ d t, v.take p ++ r = d :: t ∧ nnl d = false := by
                rcases Hd.app p hr with e | ⟨d, t1, t2, e1, e2⟩
                · exact .inl e
                · exact .inr ⟨d, t1, e1, hvn d t2 e2⟩
              have htw := takeWhile_app nnl u (v.take p ++ r) hall hz
              rw [htk, scan, if_neg c10, if_neg cw, if_pos c35, htw.1, htw.2]
              exact hp
          · rw [if_neg c35] at h
            cases htk : tok (c :: t) with
            | bad e w =>
              rw [htk] at h
              cases h
              refine ⟨0, ⟨c, t, rfl, c10, by simpa using cw, c35⟩, htk, Int.le_refl _, by simp [pl_zero], fun r _ => ⟨[], ?_⟩⟩
              show scan ([] ++ r) line col = _
              rw [List.nil_append]
              cases scan r line col <;> rfl
            | ok k w n =>
              rw [htk] at h
              simp only [] at h
              cases hs : scan (t.drop (w.length - 1)) line (col + w.length) with
              | ok l2 => rw [hs] at h; cases h
              | error f' =>
                rw [hs] at h
                cases h
                obtain ⟨hw, hwn⟩ := tok_take htk
                obtain ⟨b, w', rfl⟩ : ∃ b w', w = b :: w' := by cases w with | nil => exact absurd rfl hwn | cons b w' => exact ⟨b, w', rfl⟩
                rw [List.length_cons, List.take_succ_cons] at hw
                injection hw with hb hw
                subst hb
                rw [List.length_cons] at hs
                simp only [Nat.add_sub_cancel] at hs
                obtain ⟨p, h1, h2, h3, h4, h5⟩ := ih (t.drop w'.length) _ _ f (by rw [List.length_drop]; omega) hs
                have hno : ∀ x ∈ b :: w', x.toNat ≠ 10 := tok_nonl htk
                have hsplit : w' ++ t.drop w'.length = t := by conv => lhs; arg 1; rw [hw]
                                                               exact List.take_append_drop _ _
                generalize t.drop w'.length = v at hs h1 h2 h4 h5 hsplit
                subst hsplit
                have hdr : (b :: (w' ++ v)).drop (w'.length + 1 + p) = v.drop p := by
                  rw [show w'.length + 1 + p = (b :: w').length + p by simp, ← List.drop_drop]
                  show (((b :: w') ++ v).drop (b :: w').length).drop p = _
                  rw [List.drop_left]
                refine ⟨w'.length + 1 + p, by rw [hdr]; exact h1, by rw [hdr]; exact h2, h3, ?_, ?_⟩
                · by_cases hln : f.line = line
                  · rw [if_pos hln] at h4 ⊢
                    rw [show (f.line - line).toNat = 0 by omega, pl_zero] at h4 ⊢
                    omega
                  · rw [if_neg hln] at h4 ⊢
                    obtain ⟨n', hn⟩ : ∃ n : Nat, (f.line - line).toNat = n + 1 := ⟨(f.line - line).toNat - 1, by omega⟩
                    have := pl_skip (b :: w') v n' hno
                    rw [hn] at h4 ⊢
                    rw [show b :: (w' ++ v) = (b :: w') ++ v from rfl, this, List.length_cons]
                    omega
                · intro r hr
                  rw [hdr] at hr
                  obtain ⟨pre, hp⟩ := h5 r hr
                  have htk2 : (b :: (w' ++ v)).take (w'.length + 1 + p) ++ r = b :: (w' ++ (v.take p ++ r)) := by
                    have : ((b :: w') ++ v).take ((b :: w').length + p) = (b :: w') ++ v.take p := List.take_length_add_append p
                    rw [show w'.length + 1 + p = (b :: w').length + p by simp]
                    show ((b :: w') ++ v).take _ ++ r = _
                    rw [this]
                    simp
                  have hz : Stop (b :: (w' ++ v)) (b :: w') (v.take p ++ r) := by
                    rcases Hd.app p hr with e | ⟨d, t1, t2, e1, e2⟩
                    · exact .inl e
                    · refine .inr ⟨d, t1, e1, .inr (.inr ⟨t2, ?_⟩)⟩
                      show ((b :: w') ++ v).drop (b :: w').length = _
                      rw [List.drop_left, e2]
                  have htx : tok (b :: (w' ++ (v.take p ++ r))) = .ok k (b :: w') n := tok_ext htk hz
                  rw [htk2, scan, if_neg c10, if_neg cw, if_neg c35, htx]
                  simp only [List.length_cons, Nat.add_sub_cancel]
                  rw [List.drop_left, hp]
                  cases hq : scan r f.line f.col with
                  | error g => exact ⟨[], rfl⟩
                  | ok ts => exact ⟨⟨k, b :: w', n, line, col⟩ :: pre, rfl⟩
theorem scan_line0 : ∀ (m : Nat) (l : List UInt8) (line col : Int) (f : Flt), l.length ≤ m → scan l line col = .error f → f.line ≤ line + l.length := by
  intro m
  induction m with
  | zero =>
    intro l line col f hl h
    cases l with
    | nil => rw [scan] at h; cases h
    | cons c t => simp at hl
  | succ m ih =>
    intro l line col f hl h
    cases l with
    | nil => rw [scan] at h; cases h
    | cons c t =>
      rw [List.length_cons] at hl
      rw [scan] at h
      rw [List.length_cons]
      by_cases c10 : c.toNat = 10
      · rw [if_pos c10] at h
        have := ih t _ _ f (by omega) h
        omega
      · rw [if_neg c10] at h
        by_cases cw : ws c = true
        · rw [if_pos cw] at h
          have := ih t _ _ f (by omega) h
          omega
        · rw [if_neg cw] at h
          by_cases c35 : c.toNat = 35
          · rw [if_pos c35] at h
            have hd : (t.takeWhile nnl).length + (t.dropWhile nnl).length = t.length := by rw [← List.length_append, List.takeWhile_append_dropWhile]
            have := ih (t.dropWhile nnl) _ _ f (by omega) h
            omega
          · rw [if_neg c35] at h
            cases htk : tok (c :: t) with
            | bad e w => rw [htk] at h; cases h; show line ≤ _; omega
            | ok k w n =>
              rw [htk] at h
              simp only [] at h
              cases hs : scan (t.drop (w.length - 1)) line (col + w.length) with
              | ok l2 => rw [hs] at h; cases h
              | error f' =>
                rw [hs] at h
                cases h
                obtain ⟨hw, hwn⟩ := tok_take htk
                have hw0 : 0 < w.length := List.length_pos_iff.2 hwn
                have hwl := congrArg List.length hw
                rw [List.length_take, List.length_cons] at hwl
                have := ih (t.drop (w.length - 1)) _ _ _ (by rw [List.length_drop]; omega) hs
                rw [List.length_drop] at this
                omega

theorem scan_line (m : Nat) (l : List UInt8) (line col : Int) (f : Flt) (hl : l.length ≤ m) (h : scan l line col = .error f) : f.line ≤ line + l.length := scan_line0 m l line col f hl h

theorem scan_col : ∀ (m : Nat) (l : List UInt8) (line col : Int) (f : Flt), l.length ≤ m → 1 ≤ col → scan l line col = .error f → 1 ≤ f.col ∧ f.col ≤ col + l.length := by
  intro m
  induction m with
  | zero =>
    intro l line col f hl hcol h
    cases l with
    | nil => rw [scan] at h; cases h
    | cons c t => simp at hl
  | succ m ih =>
    intro l line col f hl hcol h
    cases l with
    | nil => rw [scan] at h; cases h
    | cons c t =>
      rw [List.length_cons] at hl
      rw [scan] at h
      rw [List.length_cons]
      by_cases c10 : c.toNat = 10
      · rw [if_pos c10] at h
        have := ih t _ _ f (by omega) (by omega) h
        omega
      · rw [if_neg c10] at h
        by_cases cw : ws c = true
        · rw [if_pos cw] at h
          have := ih t _ _ f (by omega) (by omega) h
          omega
        · rw [if_neg cw] at h
          by_cases c35 : c.toNat = 35
          · rw [if_pos c35] at h
            have hd : (t.takeWhile nnl).length + (t.dropWhile nnl).length = t.length := by rw [← List.length_append, List.takeWhile_append_dropWhile]
            have := ih (t.dropWhile nnl) _ _ f (by omega) (by omega) h
            omega
          · rw [if_neg c35] at h
            cases htk : tok (c :: t) with
            | bad e w => rw [htk] at h; cases h; show 1 ≤ col ∧ col ≤ _; omega
            | ok k w n =>
              rw [htk] at h
              simp only [] at h
              cases hs : scan (t.drop (w.length - 1)) line (col + w.length) with
              | ok l2 => rw [hs] at h; cases h
              | error f' =>
                rw [hs] at h
                cases h
                obtain ⟨hw, hwn⟩ := tok_take htk
                have hw0 : 0 < w.length := List.length_pos_iff.2 hwn
                have hwl := congrArg List.length hw
                rw [List.length_take, List.length_cons] at hwl
                have := ih (t.drop (w.length - 1)) _ _ _ (by rw [List.length_drop]; omega) (by omega) hs
                rw [List.length_drop] at this
                omega
end Go.Proofs.Ytfcekcnghomiiaa.Lx
