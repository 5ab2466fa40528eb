/- Scanning a text after a line's end: the plain law. -/
import Derived.Test.YtfcekcnghomiiaaLexG
namespace Go.Proofs.Ytfcekcnghomiiaa.Lx

/-- How many line ends a text has. -/
def nls : List UInt8 → Nat
  | [] => 0
  | c :: t => (if c.toNat = 10 then 1 else 0) + nls t
theorem nls_append : ∀ (a b : List UInt8), nls (a ++ b) = nls a + nls b
  | [], b => by simp [nls]
  | c :: a, b => by
    show (if c.toNat = 10 then 1 else 0) + nls (a ++ b) = (if c.toNat = 10 then 1 else 0) + nls a + nls b
    rw [nls_append a b]; omega
theorem nls_zero : ∀ (a : List UInt8), (∀ c ∈ a, c.toNat ≠ 10) → nls a = 0
  | [], _ => rfl
  | c :: a, h => by
    show (if c.toNat = 10 then 1 else 0) + nls a = 0
    rw [if_neg (h c (by simp)), nls_zero a (fun x hx => h x (by simp [hx]))]
theorem nls_le : ∀ (a : List UInt8), nls a ≤ a.length
  | [] => Nat.le_refl _
  | c :: a => by
    have := nls_le a
    show (if c.toNat = 10 then 1 else 0) + nls a ≤ _
    rw [List.length_cons]
    split <;> omega

def put (pre : List Tok) : Except Flt (List Tok) → Except Flt (List Tok)
  | .error g => .error g
  | .ok ts => .ok (pre ++ ts)
theorem put_nil (x : Except Flt (List Tok)) : put [] x = x := by cases x <;> rfl

theorem nnl_eq {c : UInt8} : nnl c = false ↔ c.toNat = 10 := by simp [nnl]

theorem takeWhile_nl (t v : List UInt8) (x : UInt8) (hx : x.toNat = 10) : (t ++ x :: v).takeWhile nnl = t.takeWhile nnl ∧ (t ++ x :: v).dropWhile nnl = t.dropWhile nnl ++ x :: v := by
  have hn : nnl x = false := nnl_eq.2 hx
  induction t with
  | nil =>
    constructor
    · show (x :: v).takeWhile nnl = _
      rw [List.takeWhile_cons_of_neg (by rw [hn]; decide)]; rfl
    · show (x :: v).dropWhile nnl = x :: v
      rw [List.dropWhile_cons_of_neg (by rw [hn]; decide)]
  | cons c t ih =>
    by_cases h : nnl c = true
    · constructor
      · show (c :: (t ++ x :: v)).takeWhile nnl = _
        rw [List.takeWhile_cons_of_pos h, List.takeWhile_cons_of_pos h, ih.1]
      · show (c :: (t ++ x :: v)).dropWhile nnl = _
        rw [List.dropWhile_cons_of_pos h, List.dropWhile_cons_of_pos h, ih.2]
    · constructor
      · show (c :: (t ++ x :: v)).takeWhile nnl = _
        rw [List.takeWhile_cons_of_neg h, List.takeWhile_cons_of_neg h]
      · show (c :: (t ++ x :: v)).dropWhile nnl = _
        rw [List.dropWhile_cons_of_neg h, List.dropWhile_cons_of_neg h]; rfl

theorem nls_dropWhile (t : List UInt8) : nls (t.dropWhile nnl) = nls t := by
  have h : nls t = nls (t.takeWhile nnl) + nls (t.dropWhile nnl) := by rw [← nls_append, List.takeWhile_append_dropWhile]
  have h0 : nls (t.takeWhile nnl) = 0 := nls_zero _ fun c hc => by
    have := takeWhile_all nnl t c hc
    simpa [nnl] using this
  omega

/-- A token's end, when a line's end follows the text. -/
theorem stop_nl (l w v : List UInt8) (x : UInt8) (hx : x = 10) : Stop l w (l.drop w.length ++ x :: v) := by
  cases h : l.drop w.length with
  | nil => exact .inr ⟨x, v, rfl, .inr (.inl hx)⟩
  | cons d r => exact .inr ⟨d, r ++ x :: v, rfl, .inr (.inr ⟨r, h⟩)⟩

theorem scan_lines : ∀ (m : Nat) (u : List UInt8) (line col : Int), u.length ≤ m →
    (∃ pre : List Tok, ∀ v, scan (u ++ 10 :: v) line col = put pre (scan v (line + (nls u : Int) + 1) 1)) ∨ (∃ f : Flt, f.e ≠ 0 ∧ ∀ v, scan (u ++ 10 :: v) line col = .error f) := by
  intro m
  induction m with
  | zero =>
    intro u line col hu
    cases u with
    | nil =>
      refine .inl ⟨[], fun v => ?_⟩
      show scan (10 :: v) line col = _
      rw [scan, if_pos (by decide), put_nil]
      simp [nls]
    | cons c t => simp at hu
  | succ m ih =>
    intro u line col hu
    cases u with
    | nil =>
      refine .inl ⟨[], fun v => ?_⟩
      show scan (10 :: v) line col = _
      rw [scan, if_pos (by decide), put_nil]
      simp [nls]
    | cons c t =>
      rw [List.length_cons] at hu
      by_cases c10 : c.toNat = 10
      · have hn : (nls (c :: t) : Int) = 1 + (nls t : Int) := by rw [nls, if_pos c10]; omega
        rcases ih t (line + 1) 1 (by omega) with ⟨pre, hp⟩ | ⟨f, hf, hp⟩
        · refine .inl ⟨pre, fun v => ?_⟩
          show scan (c :: (t ++ 10 :: v)) line col = _
          rw [scan, if_pos c10, hp v, hn, show line + 1 + (nls t : Int) + 1 = line + (1 + (nls t : Int)) + 1 by omega]
        · refine .inr ⟨f, hf, fun v => ?_⟩
          show scan (c :: (t ++ 10 :: v)) line col = _
          rw [scan, if_pos c10, hp v]
      · have hn : nls (c :: t) = nls t := by rw [nls, if_neg c10]; omega
        rw [hn]
        by_cases cw : ws c = true
        · rcases ih t line (col + 1) (by omega) with ⟨pre, hp⟩ | ⟨f, hf, hp⟩
          · refine .inl ⟨pre, fun v => ?_⟩
            show scan (c :: (t ++ 10 :: v)) line col = _
            rw [scan, if_neg c10, if_pos cw, hp v]
          · refine .inr ⟨f, hf, fun v => ?_⟩
            show scan (c :: (t ++ 10 :: v)) line col = _
            rw [scan, if_neg c10, if_pos cw, hp v]
        · by_cases c35 : c.toNat = 35
          · have hd : (t.dropWhile nnl).length ≤ t.length := (List.dropWhile_sublist nnl).length_le
            rcases ih (t.dropWhile nnl) line (col + 1 + (t.takeWhile nnl).length) (by omega) with ⟨pre, hp⟩ | ⟨f, hf, hp⟩
            · refine .inl ⟨pre, fun v => ?_⟩
              show scan (c :: (t ++ 10 :: v)) line col = _
              rw [scan, if_neg c10, if_neg cw, if_pos c35, (takeWhile_nl t v 10 (by decide)).1, (takeWhile_nl t v 10 (by decide)).2, hp v, nls_dropWhile]
            · refine .inr ⟨f, hf, fun v => ?_⟩
              show scan (c :: (t ++ 10 :: v)) line col = _
              rw [scan, if_neg c10, if_neg cw, if_pos c35, (takeWhile_nl t v 10 (by decide)).1, (takeWhile_nl t v 10 (by decide)).2, hp v]
          · cases htk : tok (c :: t) with
            | bad e w =>
              refine .inr ⟨⟨e, w, line, col⟩, tok_bad htk, fun v => ?_⟩
              have hw : w = (c :: t).take w.length := (tok_bad_ext (z := []) htk (by simp) (.inl rfl)).2.1
              have hx := (tok_bad_ext htk (by simp) (stop_nl (c :: t) w v 10 rfl)).2.2
              have e2 : w ++ ((c :: t).drop w.length ++ 10 :: v) = c :: (t ++ 10 :: v) := by
                rw [← List.append_assoc]
                conv => lhs; arg 1; arg 1; rw [hw]
                rw [List.take_append_drop]; rfl
              rw [e2] at hx
              show scan (c :: (t ++ 10 :: v)) line col = _
              rw [scan, if_neg c10, if_neg cw, if_neg c35, hx]
            | ok k w n =>
              obtain ⟨hw, hwn⟩ := tok_take htk
              have hw0 : 0 < w.length := List.length_pos_iff.2 hwn
              have hwl := congrArg List.length hw
              rw [List.length_take, List.length_cons] at hwl
              have hnl : nls (t.drop (w.length - 1)) = nls t := by
                have h1 : nls (c :: t) = nls ((c :: t).take w.length) + nls ((c :: t).drop w.length) := by rw [← nls_append, List.take_append_drop]
                rw [← hw, nls_zero w (tok_nonl htk)] at h1
                obtain ⟨q, hq⟩ : ∃ q, w.length = q + 1 := ⟨w.length - 1, by omega⟩
                rw [hq, List.drop_succ_cons] at h1
                rw [hq, Nat.add_sub_cancel]
                omega
              have key : ∀ v, scan (c :: (t ++ 10 :: v)) line col = (match scan (t.drop (w.length - 1) ++ 10 :: v) line (col + w.length) with | .error f => .error f | .ok l => .ok (⟨k, w, n, line, col⟩ :: l)) := by
                intro v
                have hx := tok_ext htk (stop_nl (c :: t) w v 10 rfl)
                have e2 : w ++ ((c :: t).drop w.length ++ 10 :: v) = c :: (t ++ 10 :: v) := by
                  rw [← List.append_assoc]
                  conv => lhs; arg 1; arg 1; rw [hw]
                  rw [List.take_append_drop]; rfl
                rw [e2] at hx
                rw [scan, if_neg c10, if_neg cw, if_neg c35, hx]
                simp only []
                rw [List.drop_append_of_le_length (by omega)]
                cases scan (t.drop (w.length - 1) ++ 10 :: v) line (col + w.length) <;> rfl
              rcases ih (t.drop (w.length - 1)) line (col + w.length) (by rw [List.length_drop]; omega) with ⟨pre, hp⟩ | ⟨f, hf, hp⟩
              · refine .inl ⟨⟨k, w, n, line, col⟩ :: pre, fun v => ?_⟩
                show scan (c :: (t ++ 10 :: v)) line col = _
                rw [key v, hp v, hnl]
                cases scan v (line + (nls t : Int) + 1) 1 with
                | error g => rfl
                | ok ts => rfl
              · refine .inr ⟨f, hf, fun v => ?_⟩
                show scan (c :: (t ++ 10 :: v)) line col = _
                rw [key v, hp v]

def shTok (n : Int) (t : Tok) : Tok := ⟨t.kind, t.text, t.n, t.line + n, t.col⟩
def sh (n : Int) : Except Flt (List Tok) → Except Flt (List Tok)
  | .error g => .error ⟨g.e, g.text, g.line + n, g.col⟩
  | .ok ts => .ok (ts.map (shTok n))

theorem scan_sh : ∀ (m : Nat) (v : List UInt8) (line col n : Int), v.length ≤ m → scan v (line + n) col = sh n (scan v line col) := by
  intro m
  induction m with
  | zero =>
    intro v line col n hv
    cases v with
    | nil => rw [scan, scan]; rfl
    | cons c t => simp at hv
  | succ m ih =>
    intro v line col n hv
    cases v with
    | nil => rw [scan, scan]; rfl
    | cons c t =>
      rw [List.length_cons] at hv
      rw [scan, scan]
      by_cases c10 : c.toNat = 10
      · rw [if_pos c10, if_pos c10, show line + n + 1 = line + 1 + n by omega]
        exact ih t _ _ n (by omega)
      · rw [if_neg c10, if_neg c10]
        by_cases cw : ws c = true
        · rw [if_pos cw, if_pos cw]
          exact ih t _ _ n (by omega)
        · rw [if_neg cw, if_neg cw]
          by_cases c35 : c.toNat = 35
          · rw [if_pos c35, if_pos c35]
            have hd : (t.dropWhile nnl).length ≤ t.length := (List.dropWhile_sublist nnl).length_le
            exact ih (t.dropWhile nnl) _ _ n (by omega)
          · rw [if_neg c35, if_neg c35]
            cases htk : tok (c :: t) with
            | bad e w => rfl
            | ok k w j =>
              simp only []
              rw [ih (t.drop (w.length - 1)) line (col + w.length) n (by rw [List.length_drop]; omega)]
              cases scan (t.drop (w.length - 1)) line (col + w.length) with
              | error g => rfl
              | ok ts => rfl
end Go.Proofs.Ytfcekcnghomiiaa.Lx
