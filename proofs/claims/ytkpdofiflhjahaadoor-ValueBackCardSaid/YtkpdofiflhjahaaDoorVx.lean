/- Values: the reading of texts, in plain Lean. -/
import Derived.Test.YtkpdofiflhjahaaDoorVA
import Derived.Test.YtkpdofiflhjahaaDoorVb
namespace Go.Proofs.YtkpdofiflhjahaaDoor.Ps
set_option linter.unusedVariables false
set_option linter.unusedSimpArgs false
open Go
def trueB : Bs := [116, 114, 117, 101]
def falseB : Bs := [102, 97, 108, 115, 101]
mutual
def textW : W → Bs
  | .mk k n l =>
    if k = 1 then (if n = 0 then falseB else trueB) else if k = 2 then Lib.itoa n
    else if k = 3 then [40] ++ Lib.join (textWs l) sepB ++ [41] else if k = 4 then [91] ++ Lib.join (textWs l) sepB ++ [93] else [63]
def textWs : List W → List Bs
  | [] => []
  | t :: r => textW t :: textWs r
end
theorem textWs_map : ∀ l : List W, textWs l = l.map textW
  | [] => by rw [textWs]; rfl
  | t :: r => by rw [textWs, textWs_map r]; rfl
/-- Parts between separators, the place counted, up to an end. -/
def loopW (rd : Nat → Bs → Option (W × Bs)) (fin : Bs) : Nat → Bs → List W → Option (List W × Bs)
  | 0, _, _ => none
  | f + 1, r, acc =>
    match rd acc.length r with
    | none => none
    | some (t, r1) =>
      match cutP fin r1 with
      | some r2 => some (acc ++ [t], r2)
      | none =>
        match cutP sepB r1 with
        | none => none
        | some r3 => loopW rd fin f r3 (acc ++ [t])
def loopU (rd : Nat → Bs → Option (W × Bs)) (fin : Bs) (fit : Nat → Bool) : Nat → Bs → List W → Option (List W × Bs)
  | 0, _, _ => none
  | f + 1, r, acc =>
    if acc.length < 32 then
      match rd acc.length r with
      | none => none
      | some (t, r1) =>
        match cutP sepB r1 with
        | some r3 => loopU rd fin fit f r3 (acc ++ [t])
        | none =>
          match cutP fin r1 with
          | some r2 => if fit (acc.length + 1) then some (acc ++ [t], r2) else none
          | none => none
    else none
def readB (s : Bs) : Option (W × Bs) :=
  match cutP trueB s with
  | some r => some (.mk 1 1 [], r)
  | none => (cutP falseB s).map fun r => (.mk 1 0 [], r)
def readW : Nat → T → Bs → Option (W × Bs)
  | 0, _, _ => none
  | n + 1, .mk k l, s =>
    if k = 1 then readB s
    else if k = 2 then (readI s).map fun x => (.mk 2 x.1 [], x.2)
    else if k = 3 then
      match cutP [40] s with
      | none => none
      | some r => (loopW (fun i q => if i = l.length then none else readW n (l.getD i default) q) [41] (r.length + 1) r []).map fun x => (.mk 3 0 x.1, x.2)
    else
      match cutP [91] s with
      | none => none
      | some r =>
        match cutP [93] r with
        | some r2 => some (.mk 4 0 [], r2)
        | none => (loopW (fun _ q => readW n (l.getD 0 default) q) [93] (r.length + 1) r []).map fun x => (.mk 4 0 x.1, x.2)
def readU : Nat → T → Bs → Option (W × Bs)
  | 0, _, _ => none
  | n + 1, .mk k l, s =>
    if k = 1 then readB s
    else if k = 2 then (readNum s).map fun x => (.mk 2 x.1 [], x.2)
    else if k = 3 then
      match cutP [40] s with
      | none => none
      | some r => (loopU (fun i q => if l.length ≤ i then none else readU n (l.getD i default) q) [41] (fun m => decide (m = l.length)) (r.length + 1) r []).map fun x => (.mk 3 0 x.1, x.2)
    else
      match cutP [91] s with
      | none => none
      | some r =>
        match cutP [93] r with
        | some r2 => some (.mk 4 0 [], r2)
        | none => (loopU (fun _ q => readU n (l.getD 0 default) q) [93] (fun _ => true) (r.length + 1) r []).map fun x => (.mk 4 0 x.1, x.2)
/-! ### Writing inverts reading -/
theorem readB_inv {s r : Bs} {v : W} (h : readB s = some (v, r)) : s = textW v ++ r ∧ ∀ n, hasT (n + 1) (.mk 1 []) v = true := by
  unfold readB at h
  split at h
  · rename_i q hq
    cases h
    refine ⟨?_, fun n => rfl⟩
    rw [cutP_some hq, textW]; rfl
  · rw [Option.map_eq_some_iff] at h
    obtain ⟨q, hq, h⟩ := h
    cases h
    refine ⟨?_, fun n => rfl⟩
    rw [cutP_some hq, textW]; rfl
theorem loopW_text {rd : Nat → Bs → Option (W × Bs)} {fin : Bs} (hr : ∀ i s x r, rd i s = some (x, r) → s = textW x ++ r) : ∀ (f : Nat) (s : Bs) (acc l : List W) (r : Bs), loopW rd fin f s acc = some (l, r) →
    ∃ l', l' ≠ [] ∧ l = acc ++ l' ∧ s = Lib.join (l'.map textW) sepB ++ fin ++ r
  | 0, _, _, _, _, h => by cases h
  | f + 1, s, acc, l, r, h => by
    unfold loopW at h
    split at h
    · cases h
    · rename_i t r1 ht
      have e := hr _ _ _ _ ht
      split at h
      · rename_i r2 h2
        cases h
        exact ⟨[t], by simp, rfl, by rw [e, cutP_some h2, List.map_cons, List.map_nil, Lib.join_one]; simp⟩
      · split at h
        · cases h
        · rename_i r3 h3
          obtain ⟨l', h4, h5, h6⟩ := loopW_text hr f _ _ _ _ h
          refine ⟨t :: l', by simp, by rw [h5]; simp, ?_⟩
          cases l' with
          | nil => exact absurd rfl h4
          | cons y l' =>
            rw [e, cutP_some h3, h6]
            simp only [List.map_cons]
            rw [join_two]
            simp
theorem readW_inv : ∀ (n : Nat) (t : T) (s : Bs) (v : W) (r : Bs), readW n t s = some (v, r) → s = textW v ++ r
  | 0, _, _, _, _, h => by cases h
  | n + 1, .mk k l, s, v, r, h => by
    unfold readW at h
    split at h
    · exact (readB_inv h).1
    · split at h
      · rw [Option.map_eq_some_iff] at h
        obtain ⟨x, hx, h⟩ := h
        cases h
        rw [readI_inv (show readI s = some (x.1, x.2) from hx), textW]; rfl
      · split at h
        · split at h
          · cases h
          · rename_i r1 h1
            rw [Option.map_eq_some_iff] at h
            obtain ⟨⟨l', q⟩, hl, h⟩ := h
            cases h
            obtain ⟨l2, _, h5, h6⟩ := loopW_text (fun i s x r hx => by
              split at hx
              · cases hx
              · exact readW_inv n _ s x r hx) _ _ _ _ _ hl
            rw [cutP_some h1, h6, textW, textWs_map, h5]
            simp
        · split at h
          · cases h
          · rename_i r1 h1
            split at h
            · rename_i r2 h2
              cases h
              rw [cutP_some h1, cutP_some h2, textW, textWs]; rfl
            · rw [Option.map_eq_some_iff] at h
              obtain ⟨⟨l', q⟩, hl, h⟩ := h
              cases h
              obtain ⟨l2, _, h5, h6⟩ := loopW_text (fun i s x r hx => readW_inv n _ s x r hx) _ _ _ _ _ hl
              rw [cutP_some h1, h6, textW, textWs_map, h5]
              simp
theorem loopU_text {rd : Nat → Bs → Option (W × Bs)} {fin : Bs} {fit : Nat → Bool} {P : Nat → W → Prop} (hr : ∀ i s x r, rd i s = some (x, r) → s = textW x ++ r ∧ P i x) : ∀ (f : Nat) (s : Bs) (acc l : List W) (r : Bs), loopU rd fin fit f s acc = some (l, r) →
    ∃ l', l' ≠ [] ∧ l = acc ++ l' ∧ s = Lib.join (l'.map textW) sepB ++ fin ++ r ∧ (∀ i, (h : i < l'.length) → P (acc.length + i) l'[i]) ∧ fit l.length = true ∧ l.length ≤ 32
  | 0, _, _, _, _, h => by cases h
  | f + 1, s, acc, l, r, h => by
    unfold loopU at h
    split at h
    · rename_i hlt
      split at h
      · cases h
      · rename_i t r1 ht
        obtain ⟨e, hP⟩ := hr _ _ _ _ ht
        split at h
        · rename_i r3 h3
          obtain ⟨l', h4, h5, h6, h7, h8⟩ := loopU_text hr f _ _ _ _ h
          refine ⟨t :: l', by simp, by rw [h5]; simp, ?_, ?_, h8⟩
          · cases l' with
            | nil => exact absurd rfl h4
            | cons y l' =>
              rw [e, cutP_some h3, h6]
              simp only [List.map_cons]
              rw [join_two]
              simp
          · intro i hi
            cases i with
            | zero => exact hP
            | succ i =>
              have := h7 i (by simpa using hi)
              rw [List.length_append, List.length_cons, List.length_nil] at this
              rw [show acc.length + (i + 1) = acc.length + (0 + 1) + i by omega]
              exact this
        · split at h
          · rename_i r2 h2
            split at h
            · rename_i hf
              cases h
              refine ⟨[t], by simp, rfl, by rw [e, cutP_some h2, List.map_cons, List.map_nil, Lib.join_one]; simp, ?_, by rw [List.length_append]; exact hf, by rw [List.length_append, List.length_cons, List.length_nil]; omega⟩
              intro i hi
              have : i = 0 := by simp at hi; omega
              subst this
              exact hP
            · cases h
          · cases h
    · cases h
theorem all2_of {α β : Type} (f : α → β → Bool) [Inhabited α] : ∀ (l : List α) (s : List β), l.length = s.length → (∀ i, (h : i < s.length) → f (l.getD i default) s[i] = true) → all2 f l s = true
  | [], [], _, _ => rfl
  | [], _ :: _, h, _ => by simp at h
  | _ :: _, [], h, _ => by simp at h
  | a :: r, b :: s, h, q => by
    rw [all2, Bool.and_eq_true]
    refine ⟨q 0 (by simp), all2_of f r s (by simpa using h) fun i hi => ?_⟩
    have := q (i + 1) (by simpa using hi)
    simpa using this
theorem readU_inv : ∀ (n : Nat) (t : T) (s : Bs) (v : W) (r : Bs), deepT n t = true → readU n t s = some (v, r) → s = textW v ++ r ∧ hasT n t v = true
  | 0, _, _, _, _, _, h => by cases h
  | n + 1, .mk k l, s, v, r, hd, h => by
    unfold readU at h
    unfold deepT at hd
    by_cases h1 : k = 1
    · rw [if_pos h1] at h
      rw [if_pos (.inl h1)] at hd
      obtain rfl : l = [] := List.isEmpty_iff.1 hd
      subst h1
      exact ⟨(readB_inv h).1, (readB_inv h).2 n⟩
    · rw [if_neg h1] at h
      by_cases h2 : k = 2
      · rw [if_pos h2] at h
        rw [Option.map_eq_some_iff] at h
        obtain ⟨x, hx, h⟩ := h
        cases h
        obtain ⟨q1, q2, q3⟩ := readNum_inv (show readNum s = some (x.1, x.2) from hx)
        refine ⟨by rw [q1, textW]; rfl, ?_⟩
        unfold hasT
        rw [if_neg h1, if_pos h2, decide_eq_true h2.symm, decide_eq_true q2, decide_eq_true q3]
        rfl
      · rw [if_neg h2] at h
        rw [if_neg (fun q => q.elim h1 h2)] at hd
        by_cases h3 : k = 3
        · rw [if_pos h3] at h hd
          simp only [Bool.and_eq_true, decide_eq_true_eq, List.all_eq_true] at hd
          split at h
          · cases h
          · rename_i r1 hc
            rw [Option.map_eq_some_iff] at h
            obtain ⟨⟨l', q⟩, hl, h⟩ := h
            cases h
            obtain ⟨l2, _, h5, h6, h7, h8, h9⟩ := loopU_text (P := fun i x => i < l.length ∧ hasT n (l.getD i default) x = true) (fun i s x r hx => by
              split at hx
              · cases hx
              · rename_i hi
                have hi : i < l.length := by omega
                have hm : l.getD i default ∈ l := by
                  rw [List.getD_eq_getElem?_getD, List.getElem?_eq_getElem hi]; exact List.getElem_mem hi
                obtain ⟨z1, z2⟩ := readU_inv n _ s x r (hd.2 _ hm) hx
                exact ⟨z1, hi, z2⟩) _ _ _ _ _ hl
            rw [List.nil_append] at h5
            subst h5
            refine ⟨by rw [cutP_some hc, h6, textW, textWs_map]; simp, ?_⟩
            unfold hasT
            rw [if_neg h1, if_neg h2, if_pos h3, decide_eq_true h3.symm]
            have hlen : l.length = l'.length := (of_decide_eq_true h8).symm
            rw [all2_of _ _ _ hlen (fun i hi => by have := (h7 i hi).2; simpa using this)]
            rfl
        · rw [if_neg h3] at h hd
          by_cases h4 : k = 4
          · rw [if_pos h4] at hd
            simp only [Bool.and_eq_true, decide_eq_true_eq, List.all_eq_true] at hd
            obtain ⟨a, rfl⟩ : ∃ a, l = [a] := by
              match l, hd.1 with
              | [a], _ => exact ⟨a, rfl⟩
            split at h
            · cases h
            · rename_i r1 hc
              split at h
              · rename_i r2 hc2
                cases h
                refine ⟨by rw [cutP_some hc, cutP_some hc2, textW, textWs]; rfl, ?_⟩
                unfold hasT
                rw [if_neg h1, if_neg h2, if_neg h3, decide_eq_true h4.symm]
                rfl
              · rw [Option.map_eq_some_iff] at h
                obtain ⟨⟨l', q⟩, hl, h⟩ := h
                cases h
                obtain ⟨l2, _, h5, h6, h7, h8, h9⟩ := loopU_text (P := fun i x => hasT n a x = true) (fun i s x r hx => readU_inv n a s x r (hd.2 a (by simp)) hx) _ _ _ _ _ hl
                rw [List.nil_append] at h5
                subst h5
                refine ⟨by rw [cutP_some hc, h6, textW, textWs_map]; simp, ?_⟩
                unfold hasT
                rw [if_neg h1, if_neg h2, if_neg h3, decide_eq_true h4.symm, decide_eq_true h9]
                have : l'.all (hasT n a) = true := by
                  rw [List.all_eq_true]
                  intro x hx
                  obtain ⟨i, hi, rfl⟩ := List.getElem_of_mem hx
                  exact h7 i hi
                show (true && (true && true && l'.all (hasT n a))) = true
                rw [this]
                rfl
          · rw [if_neg h4] at hd
            cases hd
/-! ### Reading inverts writing -/
theorem textW_head (v : W) : ∃ c r, textW v = c :: r ∧ c ≠ 93 := by
  obtain ⟨k, n, l⟩ := v
  unfold textW
  split
  · split
    · exact ⟨_, _, rfl, by decide⟩
    · exact ⟨_, _, rfl, by decide⟩
  · split
    · by_cases h : n < 0
      · rw [itoa_min h]; exact ⟨_, _, rfl, by decide⟩
      · rw [itoa_pos (by omega)]
        cases hq : Lib.decDigits n.toNat with
        | nil => exact absurd hq (decDigits_ne _)
        | cons c r =>
          refine ⟨c, r, rfl, ?_⟩
          have := decDigits_all n.toNat c (by rw [hq]; simp)
          intro h93
          subst h93
          cases this
    · split
      · exact ⟨_, _, rfl, by decide⟩
      · split
        · exact ⟨_, _, rfl, by decide⟩
        · exact ⟨_, _, rfl, by decide⟩
theorem goodB_cons {c : UInt8} {r : Bs} (h : numC c = false) : goodB (c :: r) := fun c' h' => by
  simp at h'
  subst h'
  exact h
theorem loopW_join {rd : Nat → Bs → Option (W × Bs)} {c : UInt8} (hc : c ≠ 44) (hn : numC c = false) (q : Bs) : ∀ (l : List W) (f : Nat) (acc : List W), l ≠ [] → l.length ≤ f → (∀ i, (h : i < l.length) → ∀ r, goodB r → rd (acc.length + i) (textW l[i] ++ r) = some (l[i], r)) →
    loopW rd [c] f (Lib.join (l.map textW) sepB ++ (c :: q)) acc = some (acc ++ l, q)
  | [], f, acc, h, _, _ => absurd rfl h
  | x :: l, 0, acc, _, h, _ => absurd h (by simp)
  | [x], f + 1, acc, _, _, hr => by
    unfold loopW
    simp only [List.map_cons, List.map_nil]
    have := hr 0 (by simp) (c :: q) (goodB_cons hn)
    simp only [List.getElem_cons_zero, Nat.add_zero] at this
    rw [Lib.join_one, this]
    simp only
    rw [show (c :: q) = [c] ++ q from rfl, cutP_app]
  | x :: y :: l, f + 1, acc, _, hf, hr => by
    unfold loopW
    simp only [List.map_cons]
    have := hr 0 (by simp) (sepB ++ (Lib.join (textW y :: l.map textW) sepB ++ (c :: q))) (goodB_cons (by decide))
    simp only [List.getElem_cons_zero, Nat.add_zero] at this
    rw [join_two, List.append_assoc, List.append_assoc, this]
    simp only
    have e1 : cutP [c] (sepB ++ (Lib.join (textW y :: l.map textW) sepB ++ (c :: q))) = none := cutP_ne c 44 [] _ hc
    rw [e1, cutP_app]
    simp only
    have := loopW_join hc hn q (y :: l) f (acc ++ [x]) (by simp) (by simpa using hf) (fun i hi r hg => by
      have := hr (i + 1) (by simp at hi ⊢; omega) r hg
      rw [List.length_append, List.length_cons, List.length_nil, show acc.length + (0 + 1) + i = acc.length + (i + 1) by omega]
      simpa using this)
    rw [List.map_cons] at this
    rw [this]
    simp
theorem loopU_join {rd : Nat → Bs → Option (W × Bs)} {fit : Nat → Bool} {c : UInt8} (hc : c ≠ 44) (hn : numC c = false) (q : Bs) : ∀ (l : List W) (f : Nat) (acc : List W), l ≠ [] → l.length ≤ f → acc.length + l.length ≤ 32 → fit (acc.length + l.length) = true → (∀ i, (h : i < l.length) → ∀ r, goodB r → rd (acc.length + i) (textW l[i] ++ r) = some (l[i], r)) →
    loopU rd [c] fit f (Lib.join (l.map textW) sepB ++ (c :: q)) acc = some (acc ++ l, q)
  | [], f, acc, h, _, _, _, _ => absurd rfl h
  | x :: l, 0, acc, _, h, _, _, _ => absurd h (by simp)
  | [x], f + 1, acc, _, _, h32, hfit, hr => by
    unfold loopU
    simp only [List.map_cons, List.map_nil]
    have := hr 0 (by simp) (c :: q) (goodB_cons hn)
    simp only [List.getElem_cons_zero, Nat.add_zero] at this
    simp only [List.length_cons, List.length_nil] at h32 hfit
    rw [if_pos (by omega), Lib.join_one, this]
    simp only
    have e1 : cutP sepB (c :: q) = none := cutP_ne 44 c [32] q (Ne.symm hc)
    rw [e1]
    simp only
    rw [show (c :: q) = [c] ++ q from rfl, cutP_app]
    simp only
    rw [if_pos (by simpa using hfit)]
  | x :: y :: l, f + 1, acc, _, hf, h32, hfit, hr => by
    unfold loopU
    simp only [List.map_cons]
    have := hr 0 (by simp) (sepB ++ (Lib.join (textW y :: l.map textW) sepB ++ (c :: q))) (goodB_cons (by decide))
    simp only [List.getElem_cons_zero, Nat.add_zero] at this
    simp only [List.length_cons] at h32 hfit
    rw [if_pos (by omega), join_two, List.append_assoc, List.append_assoc, this]
    simp only
    rw [cutP_app]
    simp only
    have := loopU_join (fit := fit) hc hn q (y :: l) f (acc ++ [x]) (by simp) (by simpa using hf) (by simp; omega) (by rw [List.length_append, List.length_cons, List.length_nil, List.length_cons, show acc.length + (0 + 1) + (l.length + 1) = acc.length + (l.length + 1 + 1) by omega]; exact hfit) (fun i hi r hg => by
      have := hr (i + 1) (by simp at hi ⊢; omega) r hg
      rw [List.length_append, List.length_cons, List.length_nil, show acc.length + (0 + 1) + i = acc.length + (i + 1) by omega]
      simpa using this)
    rw [List.map_cons] at this
    rw [this]
    simp
theorem textWs_lens (l : List W) : l.length ≤ (Lib.join (l.map textW) sepB).length := by
  have := join_len (l.map textW) (fun x hx => by
    obtain ⟨t, _, rfl⟩ := List.mem_map.1 hx
    obtain ⟨c, r, e, _⟩ := textW_head t
    rw [e]; simp)
  simpa using this
theorem all2_at {α β : Type} (f : α → β → Bool) [Inhabited α] : ∀ (l : List α) (s : List β), all2 f l s = true → ∀ i, (h : i < s.length) → i < l.length ∧ f (l.getD i default) s[i] = true
  | [], [], _, i, h => by simp at h
  | [], _ :: _, h, _, _ => by cases h
  | _ :: _, [], h, _, _ => by cases h
  | a :: r, b :: s, h, i, hi => by
    rw [all2, Bool.and_eq_true] at h
    cases i with
    | zero => exact ⟨by simp, by simpa using h.1⟩
    | succ i =>
      have := all2_at f r s h.2 i (by simpa using hi)
      exact ⟨by simpa using this.1, by simpa using this.2⟩
/-- What a text reads as, told once for both readers. -/
theorem read_both : ∀ (n : Nat) (t : T) (v : W) (r : Bs), deepT n t = true → hasT n t v = true → goodB r → readW n t (textW v ++ r) = some (v, r) ∧ readU n t (textW v ++ r) = some (v, r)
  | 0, _, _, _, h, _, _ => by cases h
  | n + 1, .mk k l, .mk k' m vs, r, hd, hh, hg => by
    unfold hasT at hh
    rw [Bool.and_eq_true, decide_eq_true_eq] at hh
    obtain ⟨rfl, hh⟩ := hh
    unfold deepT at hd
    unfold readW readU
    by_cases h1 : k' = 1
    · rw [if_pos h1] at hh
      rw [Bool.and_eq_true] at hh
      obtain rfl : vs = [] := List.isEmpty_iff.1 hh.2
      subst h1
      have : readB (textW (.mk 1 m []) ++ r) = some (.mk 1 m [], r) := by
        rw [textW, if_pos rfl]
        rcases Bool.or_eq_true _ _ ▸ hh.1 with h | h
        · rw [decide_eq_true_eq] at h
          subst h
          rw [if_pos rfl]
          unfold readB
          rw [show cutP trueB (falseB ++ r) = none from cutP_ne 116 102 _ _ (by decide), cutP_app]
          rfl
        · rw [decide_eq_true_eq] at h
          subst h
          rw [if_neg (by decide)]
          unfold readB
          rw [cutP_app]
      exact ⟨by rw [if_pos rfl, this], by rw [if_pos rfl, this]⟩
    · rw [if_neg h1] at hh
      rw [if_neg h1, if_neg h1]
      by_cases h2 : k' = 2
      · rw [if_pos h2] at hh
        rw [Bool.and_eq_true, Bool.and_eq_true, decide_eq_true_eq, decide_eq_true_eq] at hh
        obtain rfl : vs = [] := List.isEmpty_iff.1 hh.2
        rw [if_pos h2, if_pos h2, textW, if_neg h1, if_pos h2, readI_text hh.1.1 hh.1.2 hg, readNum_text hh.1.1 hh.1.2 hg]
        subst h2
        exact ⟨rfl, rfl⟩
      · rw [if_neg h2] at hh
        rw [if_neg h2, if_neg h2]
        rw [if_neg (fun q => q.elim h1 h2)] at hd
        by_cases h3 : k' = 3
        · rw [if_pos h3] at hh hd
          simp only [Bool.and_eq_true, decide_eq_true_eq, List.all_eq_true] at hd hh
          obtain ⟨rfl, hh⟩ := hh
          subst h3
          have hlen : l.length = vs.length := Decidable.byContradiction fun q => by rw [all2_len _ _ _ q] at hh; cases hh
          have e : textW (.mk 3 0 vs) ++ r = [40] ++ (Lib.join (vs.map textW) sepB ++ (41 :: r)) := by rw [textW, textWs_map]; simp
          have hne : vs ≠ [] := by intro h0; rw [h0, List.length_nil] at hlen; omega
          have hlens := textWs_lens vs
          have hm : ∀ i, i < l.length → l.getD i default ∈ l := fun i hi => by
            rw [List.getD_eq_getElem?_getD, List.getElem?_eq_getElem hi]; exact List.getElem_mem hi
          rw [if_pos rfl, if_pos rfl, e, cutP_app]
          refine ⟨?_, ?_⟩
          · simp only
            rw [loopW_join (by decide) (by decide) r vs _ [] hne (by simp only [List.length_append]; omega) (fun i hi q hq => by
              obtain ⟨z1, z2⟩ := all2_at _ _ _ hh i hi
              simp only [List.length_nil, Nat.zero_add]
              rw [if_neg (by omega)]
              exact (read_both n _ _ q (hd.2 _ (hm i z1)) z2 hq).1)]
            rfl
          · simp only
            rw [loopU_join (by decide) (by decide) r vs _ [] hne (by simp only [List.length_append]; omega) (by simp; omega) (by simp; omega) (fun i hi q hq => by
              obtain ⟨z1, z2⟩ := all2_at _ _ _ hh i hi
              simp only [List.length_nil, Nat.zero_add]
              rw [if_neg (by omega)]
              exact (read_both n _ _ q (hd.2 _ (hm i z1)) z2 hq).2)]
            rfl
        · rw [if_neg h3] at hh hd
          rw [if_neg h3, if_neg h3]
          by_cases h4 : k' = 4
          · rw [if_pos h4] at hd
            simp only [Bool.and_eq_true, decide_eq_true_eq, List.all_eq_true] at hd hh
            obtain ⟨a, rfl⟩ : ∃ a, l = [a] := by
              match l, hd.1 with
              | [a], _ => exact ⟨a, rfl⟩
            obtain ⟨⟨rfl, h32⟩, hh⟩ := hh
            subst h4
            have e : textW (.mk 4 0 vs) ++ r = [91] ++ (Lib.join (vs.map textW) sepB ++ (93 :: r)) := by rw [textW, textWs_map]; simp
            rw [e, cutP_app]
            simp only
            by_cases hne : vs = []
            · subst hne
              rw [show Lib.join (List.map textW []) sepB ++ 93 :: r = [93] ++ r from rfl, cutP_app]
              exact ⟨rfl, rfl⟩
            · have hlens := textWs_lens vs
              have e2 : cutP [93] (Lib.join (vs.map textW) sepB ++ (93 :: r)) = none := by
                cases vs with
                | nil => exact absurd rfl hne
                | cons x vs =>
                  obtain ⟨c, q, e3, hc⟩ := textW_head x
                  rw [List.map_cons, Lib.join_cons, e3]
                  exact cutP_ne 93 c [] _ (Ne.symm hc)
              rw [e2]
              have ha : ∀ i, (hi : i < vs.length) → hasT n a vs[i] = true := fun i hi => hh _ (List.getElem_mem hi)
              refine ⟨?_, ?_⟩
              · simp only
                rw [loopW_join (by decide) (by decide) r vs _ [] hne (by simp only [List.length_append]; omega) (fun i hi q hq => (read_both n a _ q (hd.2 a (by simp)) (ha i hi) hq).1)]
                rfl
              · simp only
                rw [loopU_join (by decide) (by decide) r vs _ [] hne (by simp only [List.length_append]; omega) (by simpa using h32) rfl (fun i hi q hq => (read_both n a _ q (hd.2 a (by simp)) (ha i hi) hq).2)]
                rfl
          · rw [if_neg h4] at hd
            cases hd
/-! ### Parse -/
def hasV (t : T) (v : W) : Bool := deepT 40 t && hasT 40 t v && decide (v.size ≤ 1000)
def parseV (t : T) (s : Bs) : Option W :=
  match readW 40 t s with
  | some (v, []) => if hasV t v then some v else none
  | _ => none
def parseU (t : T) (s : Bs) : Option W :=
  match readU 40 t s with
  | some (v, []) => if deepT 40 t && decide (v.size ≤ 1000) then some v else none
  | _ => none
theorem goodB_nil : goodB [] := fun c h => by cases h
theorem parseV_iff (t : T) (s : Bs) (v : W) : parseV t s = some v ↔ hasV t v = true ∧ s = textW v := by
  unfold parseV
  constructor
  · intro h
    split at h
    · rename_i v' hr
      split at h
      · rename_i hv
        cases h
        have := readW_inv _ _ _ _ _ hr
        rw [List.append_nil] at this
        exact ⟨hv, this⟩
      · cases h
    · cases h
  · rintro ⟨hv, rfl⟩
    have hv' := hv
    unfold hasV at hv'
    rw [Bool.and_eq_true, Bool.and_eq_true] at hv'
    have := (read_both 40 t v [] hv'.1.1 hv'.1.2 goodB_nil).1
    rw [List.append_nil] at this
    rw [this]
    simp only [hv, if_true]
theorem parseU_iff (t : T) (s : Bs) (v : W) : parseU t s = some v ↔ hasV t v = true ∧ s = textW v := by
  unfold parseU
  constructor
  · intro h
    split at h
    · rename_i v' hr
      split at h
      · rename_i hv
        cases h
        rw [Bool.and_eq_true] at hv
        obtain ⟨z1, z2⟩ := readU_inv _ _ _ _ _ hv.1 hr
        rw [List.append_nil] at z1
        refine ⟨?_, z1⟩
        unfold hasV
        rw [hv.1, z2, hv.2]
        rfl
      · cases h
    · cases h
  · rintro ⟨hv, rfl⟩
    unfold hasV at hv
    rw [Bool.and_eq_true, Bool.and_eq_true] at hv
    have := (read_both 40 t v [] hv.1.1 hv.1.2 goodB_nil).2
    rw [List.append_nil] at this
    rw [this]
    simp only [hv.1.1, hv.2, Bool.and_self, if_true]
theorem parseU_eq (t : T) (s : Bs) : parseU t s = parseV t s := by
  cases h : parseV t s with
  | none =>
    cases h2 : parseU t s with
    | none => rfl
    | some v => rw [(parseV_iff t s v).2 ((parseU_iff t s v).1 h2)] at h; cases h
  | some v => exact (parseU_iff t s v).2 ((parseV_iff t s v).1 h)
end Go.Proofs.YtkpdofiflhjahaaDoor.Ps
