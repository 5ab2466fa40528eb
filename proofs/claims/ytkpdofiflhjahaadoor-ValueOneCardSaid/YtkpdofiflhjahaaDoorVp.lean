/- Types: what is right, their texts, and the reading of texts, in plain Lean. -/
import Derived.Test.YtkpdofiflhjahaaDoorVt
import Derived.Lib.Join
namespace Go.Proofs.YtkpdofiflhjahaaDoor.Ps
set_option linter.unusedVariables false
open Go

abbrev Bs := List UInt8
def deepT : Nat → T → Bool
  | 0, _ => false
  | n + 1, .mk k l =>
    if k = 1 ∨ k = 2 then l.isEmpty
    else if k = 3 then decide (2 ≤ l.length) && decide (l.length ≤ 4) && l.all (deepT n)
    else if k = 4 then decide (l.length = 1) && l.all (deepT n)
    else false
def sepB : Bs := [44, 32]
mutual
def textT : T → Bs
  | .mk k l =>
    if k = 1 then [98, 111, 111, 108] else if k = 2 then [105, 110, 116]
    else if k = 3 then [40] ++ Lib.join (textTs l) sepB ++ [41] else if k = 4 then [91] ++ Lib.join (textTs l) sepB ++ [93] else [63]
def textTs : List T → List Bs
  | [] => []
  | t :: r => textT t :: textTs r
end
def cutP (p s : Bs) : Option Bs := if p.isPrefixOf s then some (s.drop p.length) else none
theorem cutP_app (p r : Bs) : cutP p (p ++ r) = some r := by unfold cutP; simp
theorem cutP_some {p s r : Bs} (h : cutP p s = some r) : s = p ++ r := by
  unfold cutP at h
  split at h
  · rename_i hp
    obtain ⟨q, rfl⟩ := List.isPrefixOf_iff_prefix.1 hp
    simp at h
    rw [h]
  · cases h
theorem cutP_ne (a b : UInt8) (p q : Bs) (h : a ≠ b) : cutP (a :: p) (b :: q) = none := by
  unfold cutP
  simp [List.isPrefixOf, h]
theorem cutP_nil (a : UInt8) (p : Bs) : cutP (a :: p) [] = none := rfl

/-- Parts between separators, up to an end. -/
def loopL {α : Type} (rd : Bs → Option (α × Bs)) (fin : Bs) : Nat → Bs → List α → Option (List α × Bs)
  | 0, _, _ => none
  | f + 1, r, acc =>
    match rd r with
    | none => none
    | some (t, r1) =>
      match cutP fin r1 with
      | some r2 => some (acc ++ [t], r2)
      | none =>
        match cutP sepB r1 with
        | none => none
        | some r3 => loopL rd fin f r3 (acc ++ [t])
def readT : Nat → Bs → Option (T × Bs)
  | 0, _ => none
  | n + 1, s =>
    match cutP [98, 111, 111, 108] s with
    | some r => some (.mk 1 [], r)
    | none =>
      match cutP [105, 110, 116] s with
      | some r => some (.mk 2 [], r)
      | none =>
        match cutP [40] s with
        | some r => (loopL (readT n) [41] (r.length + 1) r []).map fun x => (.mk 3 x.1, x.2)
        | none =>
          match cutP [91] s with
          | some r => (loopL (readT n) [93] (r.length + 1) r []).map fun x => (.mk 4 x.1, x.2)
          | none => none
def parseT (s : Bs) : Option T :=
  match readT 40 s with
  | some (t, []) => if deepT 40 t then some t else none
  | _ => none

/-- As the reference reads. -/
def loopR (rd : Bs → Option (T × Bs)) : Nat → Bs → List T → Option (List T × Bs)
  | 0, _, _ => none
  | f + 1, r, acc =>
    match rd r with
    | none => none
    | some (t, r1) =>
      match cutP sepB r1 with
      | some r3 => loopR rd f r3 (acc ++ [t])
      | none =>
        match cutP [41] r1 with
        | some r2 => if 2 ≤ (acc ++ [t]).length ∧ (acc ++ [t]).length ≤ 4 then some (acc ++ [t], r2) else none
        | none => none
def readR : Nat → Bs → Option (T × Bs)
  | 0, _ => none
  | n + 1, s =>
    match cutP [98, 111, 111, 108] s with
    | some r => some (.mk 1 [], r)
    | none =>
      match cutP [105, 110, 116] s with
      | some r => some (.mk 2 [], r)
      | none =>
        match cutP [91] s with
        | some r =>
          match readR n r with
          | none => none
          | some (t, r1) =>
            match cutP [93] r1 with
            | none => none
            | some r2 => some (.mk 4 [t], r2)
        | none =>
          match cutP [40] s with
          | some r => (loopR (readR n) (r.length + 1) r []).map fun x => (.mk 3 x.1, x.2)
          | none => none
def parseR (s : Bs) : Option T :=
  match readR 40 s with
  | some (t, []) => some t
  | _ => none

theorem loopL_front {α : Type} {rd : Bs → Option (α × Bs)} {fin : Bs} : ∀ {f : Nat} {r : Bs} {acc : List α} {x : List α × Bs}, loopL rd fin f r acc = some x → ∃ l, l ≠ [] ∧ x.1 = acc ++ l
  | 0, _, _, _, h => by cases h
  | f + 1, r, acc, x, h => by
    unfold loopL at h
    split at h
    · cases h
    · rename_i t r1 _
      split at h
      · cases h; exact ⟨[t], by simp, rfl⟩
      · split at h
        · cases h
        · obtain ⟨l, h1, h2⟩ := loopL_front h
          exact ⟨t :: l, by simp, by rw [h2]; simp⟩
theorem cut_one_sep {c : UInt8} {r1 r2 : Bs} (hc : c ≠ 44) (h : cutP [c] r1 = some r2) : cutP sepB r1 = none := by
  rw [cutP_some h]
  exact cutP_ne 44 c [32] r2 (Ne.symm hc)
theorem loopR_eq {n : Nat} (ih : ∀ s, readR n s = (readT n s).filter (fun x => deepT n x.1)) : ∀ (f : Nat) (r : Bs) (acc : List T), acc.all (deepT n) = true →
    loopR (readR n) f r acc = (loopL (readT n) [41] f r acc).filter (fun x => decide (2 ≤ x.1.length) && decide (x.1.length ≤ 4) && x.1.all (deepT n))
  | 0, _, _, _ => rfl
  | f + 1, r, acc, ha => by
    unfold loopR loopL
    rw [ih r]
    cases hr : readT n r with
    | none => rfl
    | some p =>
      obtain ⟨t, r1⟩ := p
      cases hd : deepT n t with
      | false =>
        simp only [Option.filter_some, hd]
        have bad : ∀ x : List T × Bs, (∃ l, x.1 = acc ++ [t] ++ l) → (decide (2 ≤ x.1.length) && decide (x.1.length ≤ 4) && x.1.all (deepT n)) = false := by
          rintro x ⟨l, h⟩
          rw [h]
          simp [hd]
        simp only [Bool.false_eq_true, if_false]
        split
        · rw [Option.filter_some, bad _ ⟨[], by simp⟩]; rfl
        · split
          · rfl
          · rename_i r3 _
            cases hl : loopL (readT n) [41] f r3 (acc ++ [t]) with
            | none => rfl
            | some x =>
              obtain ⟨l, _, h2⟩ := loopL_front hl
              rw [Option.filter_some, bad x ⟨l, h2⟩]; rfl
      | true =>
        simp only [Option.filter_some, hd, if_true]
        have ha' : (acc ++ [t]).all (deepT n) = true := by rw [List.all_append, ha]; simp [hd]
        cases h1 : cutP [41] r1 with
        | some r2 =>
          rw [cut_one_sep (by decide) h1]
          simp only [Option.filter_some, ha', Bool.and_true]
          by_cases h3 : 2 ≤ (acc ++ [t]).length ∧ (acc ++ [t]).length ≤ 4
          · rw [if_pos h3, decide_eq_true h3.1, decide_eq_true h3.2]; rfl
          · rw [if_neg h3, if_neg]
            simpa using h3
        | none =>
          cases h2 : cutP sepB r1 with
          | none => rfl
          | some r3 => exact loopR_eq ih f r3 (acc ++ [t]) ha'
theorem readR_eq : ∀ (n : Nat) (s : Bs), readR n s = (readT n s).filter (fun x => deepT n x.1)
  | 0, s => rfl
  | n + 1, s => by
    unfold readR readT
    split
    · simp [Option.filter_some, deepT]
    · split
      · simp [Option.filter_some, deepT]
      · cases h1 : cutP [91] s with
        | some r =>
          have e := cutP_some h1
          have h0 : cutP [40] s = none := by rw [e]; exact cutP_ne 40 91 [] r (by decide)
          simp only [h0]
          rw [readR_eq n r]
          unfold loopL
          cases hr : readT n r with
          | none => rfl
          | some p =>
            obtain ⟨t, r1⟩ := p
            have many : ∀ f r3, ((loopL (readT n) [93] f r3 ([] ++ [t])).map fun x => (T.mk 4 x.1, x.2)).filter (fun x => deepT (n + 1) x.1) = none := fun f r3 => by
              cases hl : loopL (readT n) [93] f r3 ([] ++ [t]) with
              | none => rfl
              | some x =>
                obtain ⟨l, h3, h4⟩ := loopL_front hl
                rw [Option.map_some, Option.filter_some, if_neg]
                rw [h4]
                cases l with
                | nil => exact absurd rfl h3
                | cons a l => simp [deepT]
            cases hd : deepT n t with
            | false =>
              simp only [Option.filter_some, hd, Bool.false_eq_true, if_false]
              split
              · simp [Option.filter_some, deepT, hd]
              · split
                · rfl
                · exact (many _ _).symm
            | true =>
              simp only [Option.filter_some, hd, if_true]
              cases h5 : cutP [93] r1 with
              | some r2 => simp [Option.filter_some, deepT, hd]
              | none =>
                simp only
                split
                · rfl
                · exact (many _ _).symm
        | none =>
          cases h0 : cutP [40] s with
          | none => rfl
          | some r =>
            simp only
            rw [loopR_eq (readR_eq n) _ _ _ rfl]
            cases hl : loopL (readT n) [41] (r.length + 1) r [] with
            | none => rfl
            | some x =>
              simp only [Option.filter_some, Option.map_some, deepT]
              split <;> simp_all
theorem parseR_eq (s : Bs) : parseR s = parseT s := by
  unfold parseR parseT
  rw [readR_eq]
  cases readT 40 s with
  | none => rfl
  | some p =>
    obtain ⟨t, r⟩ := p
    rw [Option.filter_some]
    cases hd : deepT 40 t <;> cases r <;> simp [hd]

/-! ### Reading inverts writing -/
theorem textTs_map : ∀ l : List T, textTs l = l.map textT
  | [] => by rw [textTs]; rfl
  | t :: r => by rw [textTs, textTs_map r]; rfl
theorem join_two (x y : Bs) (r : List Bs) (sep : Bs) : Lib.join (x :: y :: r) sep = x ++ sep ++ Lib.join (y :: r) sep := by
  rw [Lib.join_cons, Lib.join_cons]
  simp [Lib.joinTail]
theorem loopL_join {α : Type} {rd : Bs → Option (α × Bs)} {tx : α → Bs} {c : UInt8} (hc : c ≠ 44) (q : Bs) : ∀ (l : List α) (f : Nat) (acc : List α), l ≠ [] → l.length ≤ f → (∀ x ∈ l, ∀ r, (r.head? = some c ∨ r.head? = some 44) → rd (tx x ++ r) = some (x, r)) →
    loopL rd [c] f (Lib.join (l.map tx) sepB ++ (c :: q)) acc = some (acc ++ l, q)
  | [], f, acc, h, _, _ => absurd rfl h
  | x :: l, 0, acc, _, h, _ => absurd h (by simp)
  | [x], f + 1, acc, _, _, hr => by
    unfold loopL
    simp only [List.map_cons, List.map_nil]
    rw [Lib.join_one, hr x (by simp) _ (.inl rfl)]
    simp only
    rw [show (c :: q) = [c] ++ q from rfl, cutP_app]
  | x :: y :: l, f + 1, acc, _, hf, hr => by
    unfold loopL
    simp only [List.map_cons]
    rw [join_two, List.append_assoc, List.append_assoc, hr x (by simp) _ (.inr rfl)]
    simp only
    have e1 : cutP [c] (sepB ++ (Lib.join (tx y :: l.map tx) sepB ++ (c :: q))) = none := cutP_ne c 44 [] _ hc
    rw [e1, cutP_app]
    simp only
    have := loopL_join hc q (y :: l) f (acc ++ [x]) (by simp) (by simpa using hf) (fun z hz => hr z (by simp at hz ⊢; exact .inr hz))
    rw [List.map_cons] at this
    rw [this]
    simp
theorem join_len : ∀ (l : List Bs), (∀ x ∈ l, 1 ≤ x.length) → l.length ≤ (Lib.join l sepB).length
  | [], _ => by simp
  | [x], h => by rw [Lib.join_one]; simpa using h x (by simp)
  | x :: y :: r, h => by
    rw [join_two]
    have := join_len (y :: r) (fun z hz => h z (by simp at hz ⊢; exact .inr hz))
    have := h x (by simp)
    simp only [List.length_append, List.length_cons] at *
    omega
theorem textT_pos (t : T) : 1 ≤ (textT t).length := by
  cases t
  unfold textT
  split
  · simp
  · split
    · simp
    · split
      · simp only [List.length_append, List.length_cons, List.length_nil]; omega
      · split
        · simp only [List.length_append, List.length_cons, List.length_nil]; omega
        · simp
theorem readT_text : ∀ (n : Nat) (t : T) (r : Bs), deepT n t = true → readT n (textT t ++ r) = some (t, r)
  | 0, t, r, h => by cases h
  | n + 1, .mk k l, r, h => by
    unfold readT
    unfold deepT at h
    have lens : (textTs l).length ≤ (Lib.join (textTs l) sepB).length := join_len _ (fun x hx => by
      rw [textTs_map] at hx
      obtain ⟨t, _, rfl⟩ := List.mem_map.1 hx
      exact textT_pos t)
    rw [textTs_map, List.length_map] at lens
    by_cases h1 : k = 1
    · subst h1
      rw [if_pos (.inl rfl)] at h
      rw [List.isEmpty_iff] at h
      subst h
      have e : textT (.mk 1 []) = [98, 111, 111, 108] := by rw [textT]; rfl
      rw [e, cutP_app]
    · by_cases h2 : k = 2
      · subst h2
        rw [if_pos (.inr rfl)] at h
        rw [List.isEmpty_iff] at h
        subst h
        have e : textT (.mk 2 []) = [105, 110, 116] := by rw [textT]; rfl
        rw [e, show cutP [98, 111, 111, 108] ([105, 110, 116] ++ r) = none from cutP_ne 98 105 _ _ (by decide), cutP_app]
      · rw [if_neg (by omega)] at h
        by_cases h3 : k = 3
        · subst h3
          rw [if_pos rfl] at h
          simp only [Bool.and_eq_true, decide_eq_true_eq, List.all_eq_true] at h
          have e : textT (.mk 3 l) ++ r = 40 :: (Lib.join (l.map textT) sepB ++ (41 :: r)) := by rw [textT, textTs_map]; simp
          rw [e, show cutP [98, 111, 111, 108] (40 :: (Lib.join (l.map textT) sepB ++ (41 :: r))) = none from cutP_ne 98 40 _ _ (by decide),
            show cutP [105, 110, 116] (40 :: (Lib.join (l.map textT) sepB ++ (41 :: r))) = none from cutP_ne 105 40 _ _ (by decide),
            show cutP [40] (40 :: (Lib.join (l.map textT) sepB ++ (41 :: r))) = some (Lib.join (l.map textT) sepB ++ (41 :: r)) from cutP_app [40] _]
          simp only
          rw [loopL_join (by decide) r l _ [] (by intro h0; subst h0; simp at h) (by simp only [List.length_append]; omega) (fun x hx q _ => readT_text n x q (h.2 x hx))]
          rfl
        · rw [if_neg h3] at h
          by_cases h4 : k = 4
          · subst h4
            rw [if_pos rfl] at h
            simp only [Bool.and_eq_true, decide_eq_true_eq, List.all_eq_true] at h
            have e : textT (.mk 4 l) ++ r = 91 :: (Lib.join (l.map textT) sepB ++ (93 :: r)) := by rw [textT, textTs_map]; simp
            rw [e, show cutP [98, 111, 111, 108] (91 :: (Lib.join (l.map textT) sepB ++ (93 :: r))) = none from cutP_ne 98 91 _ _ (by decide),
              show cutP [105, 110, 116] (91 :: (Lib.join (l.map textT) sepB ++ (93 :: r))) = none from cutP_ne 105 91 _ _ (by decide),
              show cutP [40] (91 :: (Lib.join (l.map textT) sepB ++ (93 :: r))) = none from cutP_ne 40 91 _ _ (by decide),
              show cutP [91] (91 :: (Lib.join (l.map textT) sepB ++ (93 :: r))) = some (Lib.join (l.map textT) sepB ++ (93 :: r)) from cutP_app [91] _]
            simp only
            rw [loopL_join (by decide) r l _ [] (by intro h0; subst h0; simp at h) (by simp only [List.length_append]; omega) (fun x hx q _ => readT_text n x q (h.2 x hx))]
            rfl
          · rw [if_neg h4] at h
            cases h
theorem parseT_text (t : T) (h : deepT 40 t = true) : parseT (textT t) = some t := by
  unfold parseT
  have := readT_text 40 t [] h
  rw [List.append_nil] at this
  rw [this]
  simp only [h, if_true]

/-! ### Writing inverts reading -/
theorem loopL_text {α : Type} {rd : Bs → Option (α × Bs)} {tx : α → Bs} {fin : Bs} (hr : ∀ s x r, rd s = some (x, r) → s = tx x ++ r) : ∀ (f : Nat) (s : Bs) (acc l : List α) (r : Bs), loopL rd fin f s acc = some (l, r) →
    ∃ l', l' ≠ [] ∧ l = acc ++ l' ∧ s = Lib.join (l'.map tx) sepB ++ fin ++ r
  | 0, _, _, _, _, h => by cases h
  | f + 1, s, acc, l, r, h => by
    unfold loopL at h
    split at h
    · cases h
    · rename_i t r1 ht
      have e := hr _ _ _ ht
      split at h
      · rename_i r2 h2
        cases h
        exact ⟨[t], by simp, rfl, by rw [e, cutP_some h2, List.map_cons, List.map_nil, Lib.join_one]; simp⟩
      · split at h
        · cases h
        · rename_i r3 h3
          obtain ⟨l', h4, h5, h6⟩ := loopL_text hr f _ _ _ _ h
          refine ⟨t :: l', by simp, by rw [h5]; simp, ?_⟩
          cases l' with
          | nil => exact absurd rfl h4
          | cons y l' =>
            rw [e, cutP_some h3, h6]
            simp only [List.map_cons]
            rw [join_two]
            simp
theorem readT_inv : ∀ (n : Nat) (s : Bs) (t : T) (r : Bs), readT n s = some (t, r) → s = textT t ++ r
  | 0, _, _, _, h => by cases h
  | n + 1, s, t, r, h => by
    unfold readT at h
    split at h
    · rename_i r1 h1
      cases h
      rw [cutP_some h1, textT]; rfl
    · split at h
      · rename_i r1 h1
        cases h
        rw [cutP_some h1, textT]; rfl
      · split at h
        · rename_i r1 h1
          rw [Option.map_eq_some_iff] at h
          obtain ⟨⟨l, q⟩, hl, h⟩ := h
          cases h
          obtain ⟨l', _, h5, h6⟩ := loopL_text (readT_inv n) _ _ _ _ _ hl
          rw [cutP_some h1, h6, textT, textTs_map, h5]
          simp
        · split at h
          · rename_i r1 h1
            rw [Option.map_eq_some_iff] at h
            obtain ⟨⟨l, q⟩, hl, h⟩ := h
            cases h
            obtain ⟨l', _, h5, h6⟩ := loopL_text (readT_inv n) _ _ _ _ _ hl
            rw [cutP_some h1, h6, textT, textTs_map, h5]
            simp
          · cases h
theorem parseT_inv {s : Bs} {t : T} (h : parseT s = some t) : textT t = s ∧ deepT 40 t = true := by
  unfold parseT at h
  split at h
  · rename_i t' ht
    split at h
    · rename_i hd
      cases h
      have := readT_inv _ _ _ _ ht
      rw [List.append_nil] at this
      exact ⟨this.symm, hd⟩
    · cases h
  · cases h
end Go.Proofs.YtkpdofiflhjahaaDoor.Ps
