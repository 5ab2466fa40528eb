/- Reading without fuel: the readings' one meaning. -/
import Derived.Test.YtbmcafehpgimfaaGq
namespace Go.Proofs.Ytbmcafehpgimfaa.Px
set_option linter.unusedVariables false
set_option linter.unusedSimpArgs false
open Lx (Tok)
open Pm

def thenR {α β : Type} (r : Rs β) (g : β → Nat → Rs α) : Rs α :=
  match r with
  | .ok a j => g a j
  | .no j => .no j
  | .out => .out
def Pm.bind {α β : Type} : Pm α → (α → Pm β) → Pm β
  | .ret a, f => f a
  | .fail, f => .fail
  | .tst s y n, f => .tst s (y.bind f) (n.bind f)
  | .knd k y n, f => .knd k (y.bind f) (n.bind f)
  | .look g, f => .look fun t => (g t).bind f
  | .next m, f => .next (m.bind f)
  | .call q g, f => .call q fun a => (g a).bind f
section
variable {α β : Type} {P P' : (q : NT) → Nat → Rs (Ret q)} {l : List Tok}
theorem run_call (q : NT) (f : Ret q → Pm α) (i : Nat) : run P l (.call q f) i = thenR (P q i) fun a j => run P l (f a) j := by
  rw [run]
  unfold thenR
  cases P q i <;> rfl
theorem run_bind (f : α → Pm β) : ∀ (m : Pm α) (i : Nat), run P l (m.bind f) i = thenR (run P l m i) fun a j => run P l (f a) j
  | .ret a, i => rfl
  | .fail, i => rfl
  | .tst s y n, i => by
    rw [Pm.bind, run, run]
    cases isT s (tk l i)
    · exact run_bind f n i
    · exact run_bind f y i
  | .knd k y n, i => by
    rw [Pm.bind, run, run]
    cases (tk l i).kind == k
    · exact run_bind f n i
    · exact run_bind f y i
  | .look g, i => by rw [Pm.bind, run, run]; exact run_bind f (g (tk l i)) i
  | .next m, i => by rw [Pm.bind, run, run]; exact run_bind f m (i + 1)
  | .call q g, i => by
    rw [Pm.bind, run_call, run_call]
    cases P q i with
    | ok a j => exact run_bind f (g a) j
    | no j => rfl
    | out => rfl
theorem run_mono (h : ∀ q i, P q i ≠ .out → P' q i = P q i) : ∀ (m : Pm α) (i : Nat), run P l m i ≠ .out → run P' l m i = run P l m i
  | .ret a, i, _ => rfl
  | .fail, i, _ => rfl
  | .tst s y n, i, hr => by
    rw [run] at hr ⊢
    rw [run]
    cases hq : isT s (tk l i)
    · rw [hq] at hr; exact run_mono h n i hr
    · rw [hq] at hr; exact run_mono h y i hr
  | .knd k y n, i, hr => by
    rw [run] at hr ⊢
    rw [run]
    cases hq : (tk l i).kind == k
    · rw [hq] at hr; exact run_mono h n i hr
    · rw [hq] at hr; exact run_mono h y i hr
  | .look g, i, hr => by rw [run] at hr ⊢; rw [run]; exact run_mono h (g (tk l i)) i hr
  | .next m, i, hr => by rw [run] at hr ⊢; rw [run]; exact run_mono h m (i + 1) hr
  | .call q g, i, hr => by
    rw [run_call] at hr ⊢
    rw [run_call]
    have hne : P q i ≠ .out := fun e => by rw [e] at hr; exact hr rfl
    rw [h q i hne]
    cases hq : P q i with
    | ok a j => rw [hq] at hr; exact run_mono h (g a) j hr
    | no j => rfl
    | out => rfl
end
theorem parse_mono (l : List Tok) : ∀ (n : Nat) (q : NT) (i : Nat), parse l n q i ≠ .out → parse l (n + 1) q i = parse l n q i
  | 0, q, i, h => absurd rfl h
  | n + 1, q, i, h => run_mono (parse_mono l n) (body q) i h
/-- The meaning of a reader at a place. -/
def pw (l : List Tok) : (q : NT) → Nat → Rs (Ret q) := parse l (l.length * 16 + 13)
theorem rank_le (q : NT) : rank q ≤ 12 := by
  cases q with
  | level n => match n with
    | 0 | 1 | 2 | 3 | 4 | 5 => decide
    | n + 6 => exact (by decide : (3 : Nat) ≤ 12)
  | _ => simp [rank]
section
variable {l : List Tok}
theorem pw_ends (hl : GoodL l) (q : NT) (i : Nat) (hi : i < l.length) : pw l q i ≠ .out :=
  parse_ends hl _ q i hi (by have := rank_le q; have : (l.length - i) * 16 ≤ l.length * 16 := Nat.mul_le_mul_right _ (Nat.sub_le _ _); omega)
theorem pw_fine (hl : GoodL l) (q : NT) (i : Nat) (hi : i < l.length) : Fine l i (pw l q i) := parse_fine hl _ q i hi
theorem pw_eq (hl : GoodL l) (q : NT) (i : Nat) (hi : i < l.length) : pw l q i = run (pw l) l (body q) i := (parse_mono l _ q i (pw_ends hl q i hi)).symm
theorem run_open {α : Type} (hl : GoodL l) (q : NT) (f : Ret q → Pm α) (i : Nat) (hi : i < l.length) : run (pw l) l (.call q f) i = run (pw l) l ((body q).bind f) i := by
  rw [run_call, run_bind, ← pw_eq hl q i hi]
/-- Behind a token that was asked for another one stands. -/
theorem nx (hl : GoodL l) {i : Nat} {s : List UInt8} (hi : i < l.length) (h : isT s (tk l i) = true) : i + 1 < l.length := by
  have h1 := isT_kind h
  have h2 := hl.last i hi
  have : ¬ (i + 1 = l.length) := fun e => h1 (h2.2 e)
  omega
theorem nxk (hl : GoodL l) {i : Nat} {k : Int} (hi : i < l.length) (h : (tk l i).kind = k) (hk : k ≠ 5) : i + 1 < l.length := by
  have h2 := hl.last i hi
  have : ¬ (i + 1 = l.length) := fun e => hk (h ▸ h2.2 e)
  omega
theorem pw_ok (hl : GoodL l) {q : NT} {i : Nat} (hi : i < l.length) {a : Ret q} {j : Nat} (h : pw l q i = .ok a j) : i ≤ j ∧ j < l.length := by
  have := pw_fine hl q i hi
  rw [h] at this
  exact this
end
/-! ### Reading an expression takes a token at least -/
inductive Eat {α : Type} : Bool → Pm α → Prop
  | ret (a : α) : Eat true (.ret a)
  | fail (c : Bool) : Eat c .fail
  | tst (c : Bool) (s : List UInt8) (y n : Pm α) : Eat c y → Eat c n → Eat c (.tst s y n)
  | knd (c : Bool) (k : Int) (y n : Pm α) : Eat c y → Eat c n → Eat c (.knd k y n)
  | look (c : Bool) (f : Tok → Pm α) : (∀ x, Eat c (f x)) → Eat c (.look f)
  | next (c : Bool) (m : Pm α) : Eat true m → Eat c (.next m)
  | call (c : Bool) (q : NT) (f : Ret q → Pm α) : (∀ a, Eat c (f a)) → Eat c (.call q f)
  | eat (c : Bool) (q : NT) (f : Ret q → Pm α) : (match q with | .expr | .level _ | .unary | .atom => True | _ => False) → (∀ a, Eat true (f a)) → Eat c (.call q f)
def eats : NT → Prop
  | .expr | .level _ | .unary | .atom => True
  | _ => False
theorem run_le {α : Type} {P : (q : NT) → Nat → Rs (Ret q)} {l : List Tok} (hP : ∀ q i a j, P q i = .ok a j → i ≤ j) : ∀ (m : Pm α) (i : Nat) (a : α) (j : Nat), run P l m i = .ok a j → i ≤ j
  | .ret _, i, a, j, h => by rw [run] at h; cases h; exact Nat.le_refl _
  | .fail, i, a, j, h => by rw [run] at h; cases h
  | .tst s y n, i, a, j, h => by
    rw [run] at h
    cases hq : isT s (tk l i)
    · rw [hq] at h; exact run_le hP n i a j h
    · rw [hq] at h; exact run_le hP y i a j h
  | .knd k y n, i, a, j, h => by
    rw [run] at h
    cases hq : (tk l i).kind == k
    · rw [hq] at h; exact run_le hP n i a j h
    · rw [hq] at h; exact run_le hP y i a j h
  | .look f, i, a, j, h => by rw [run] at h; exact run_le hP _ i a j h
  | .next m, i, a, j, h => by rw [run] at h; exact Nat.le_of_succ_le (run_le hP m (i + 1) a j h)
  | .call q f, i, a, j, h => by
    rw [run_call] at h
    cases hq : P q i with
    | ok b k => rw [hq] at h; exact Nat.le_trans (hP q i b k hq) (run_le hP _ k a j h)
    | no k => rw [hq] at h; cases h
    | out => rw [hq] at h; cases h
theorem run_eat {α : Type} {P : (q : NT) → Nat → Rs (Ret q)} {l : List Tok} (hP : ∀ q i a j, P q i = .ok a j → i ≤ j) (hS : ∀ q i a j, eats q → P q i = .ok a j → i < j) {c : Bool} {m : Pm α} (hm : Eat c m) :
    ∀ (i : Nat) (a : α) (j : Nat), c = false → run P l m i = .ok a j → i < j := by
  induction hm with
  | ret b => exact fun i a j hc => by cases hc
  | fail c => exact fun i a j hc h => by rw [run] at h; cases h
  | tst c s y n _ _ hy hn =>
    intro i a j hc h
    rw [run] at h
    cases hq : isT s (tk l i)
    · rw [hq] at h; exact hn i a j hc h
    · rw [hq] at h; exact hy i a j hc h
  | knd c k y n _ _ hy hn =>
    intro i a j hc h
    rw [run] at h
    cases hq : (tk l i).kind == k
    · rw [hq] at h; exact hn i a j hc h
    · rw [hq] at h; exact hy i a j hc h
  | look c f _ ih => exact fun i a j hc h => by rw [run] at h; exact ih _ i a j hc h
  | next c m _ _ => exact fun i a j hc h => by rw [run] at h; exact Nat.lt_of_succ_le (run_le hP m (i + 1) a j h)
  | call c q f _ ih =>
    intro i a j hc h
    rw [run_call] at h
    cases hq : P q i with
    | ok b k => rw [hq] at h; exact Nat.lt_of_le_of_lt (hP q i b k hq) (ih b k a j hc h)
    | no k => rw [hq] at h; cases h
    | out => rw [hq] at h; cases h
  | eat c q f hs _ _ =>
    intro i a j hc h
    rw [run_call] at h
    cases hq : P q i with
    | ok b k =>
      rw [hq] at h
      exact Nat.lt_of_lt_of_le (hS q i b k (by cases q <;> exact hs) hq) (run_le hP _ k a j h)
    | no k => rw [hq] at h; cases h
    | out => rw [hq] at h; cases h
theorem parse_le (l : List Tok) : ∀ (n : Nat) (q : NT) (i : Nat) (a : Ret q) (j : Nat), parse l n q i = .ok a j → i ≤ j
  | 0, q, i, a, j, h => by cases h
  | n + 1, q, i, a, j, h => run_le (parse_le l n) _ _ _ _ h
theorem eat_body : ∀ q : NT, eats q → Eat false (body q) := by
  intro q hq
  cases q with
  | expr =>
    unfold body
    unfold lets
    repeat' first | (exact .eat _ _ _ trivial fun _ => .ret _) | (intro _) | (constructor)
  | level n =>
    match n with
    | 0 | 1 | 2 | 3 | 4 | 5 => exact .eat _ _ _ trivial fun _ => .call _ _ _ fun _ => .ret _
    | n + 6 => exact .eat _ _ _ trivial fun _ => .ret _
  | unary =>
    unfold body
    repeat' first | (exact .eat _ _ _ trivial fun _ => .ret _) | (intro _) | (constructor)
  | atom =>
    unfold body
    repeat' first | (intro _) | (constructor)
  | _ => exact hq.elim
theorem parse_eat (l : List Tok) : ∀ (n : Nat) (q : NT) (i : Nat) (a : Ret q) (j : Nat), eats q → parse l n q i = .ok a j → i < j
  | 0, q, i, a, j, _, h => by cases h
  | n + 1, q, i, a, j, hq, h => run_eat (parse_le l n) (parse_eat l n) (eat_body q hq) _ _ _ rfl h
theorem pw_eat {l : List Tok} {q : NT} {i : Nat} {a : Ret q} {j : Nat} (hq : eats q) (h : pw l q i = .ok a j) : i < j := parse_eat l _ q i a j hq h
theorem pw_le {l : List Tok} {q : NT} {i : Nat} {a : Ret q} {j : Nat} (h : pw l q i = .ok a j) : i ≤ j := parse_le l _ q i a j h
end Go.Proofs.Ytbmcafehpgimfaa.Px
/- What is read is no greater than what was read of the text. -/
namespace Go.Proofs.Ytbmcafehpgimfaa.Px
set_option linter.unusedVariables false
open Lx (Tok)
open Pm

mutual
def wE : E → Nat
  | .mk _ _ _ ns os ks _ _ => 1 + ns.length + os.length + wEs ks
def wEs : List E → Nat
  | [] => 0
  | x :: r => wE x + wEs r
end
mutual
def wT : T → Nat
  | .mk _ l => 1 + wTs l
def wTs : List T → Nat
  | [] => 0
  | x :: r => wT x + wTs r
end
def wF (f : Fld) : Nat := wT f.typ
def wFs : List Fld → Nat
  | [] => 0
  | x :: r => wF x + wFs r
def wFn (f : Fnc) : Nat := 1 + wFs f.params + wT f.res + wE f.body
def wFns : List Fnc → Nat
  | [] => 0
  | x :: r => wFn x + wFns r
theorem wE_mk (k n : Int) (s : List UInt8) (ns : List (List UInt8)) (os : List Int) (ks : List E) (a b : Int) : wE (.mk k n s ns os ks a b) = 1 + ns.length + os.length + wEs ks := by rw [wE]
theorem wT_mk (k : Int) (l : List T) : wT (.mk k l) = 1 + wTs l := by rw [wT]
theorem wEs_cons (x : E) (r : List E) : wEs (x :: r) = wE x + wEs r := by rw [wEs]
theorem wEs_nil : wEs [] = 0 := by rw [wEs]
theorem wTs_cons (x : T) (r : List T) : wTs (x :: r) = wT x + wTs r := by rw [wTs]
theorem wTs_nil : wTs [] = 0 := by rw [wTs]
def wQ : (q : NT) → Ret q → Nat
  | .typ, t => wT t
  | .typs, l => wTs l
  | .field, f => wF f
  | .fields, l => wFs l
  | .fun_, f => wFn f
  | .names, l => l.length
  | .list _, l => wEs l
  | .rest _, l => wEs l
  | .pick, p => p.1.length + wEs p.2
  | .share, l => l.length
  | .bound, _ => 1
  | .inputs, l => wFs l
  | .funs, l => wFns l
  | .program, p => wFs p.inputs + wFns p.funs + wE p.query
  | .expr, e => wE e
  | .level _, e => wE e
  | .loop _ _, e => wE e
  | .unary, e => wE e
  | .atom, e => wE e
def wB : NT → Nat
  | .loop _ left => wE left
  | _ => 0
inductive Wt {α : Type} (w : α → Nat) : Nat → Pm α → Prop
  | ret (c : Nat) (a : α) : w a ≤ c → Wt w c (.ret a)
  | fail (c : Nat) : Wt w c .fail
  | tst (c : Nat) (s : List UInt8) (y n : Pm α) : Wt w c y → Wt w c n → Wt w c (.tst s y n)
  | knd (c : Nat) (k : Int) (y n : Pm α) : Wt w c y → Wt w c n → Wt w c (.knd k y n)
  | look (c : Nat) (f : Tok → Pm α) : (∀ x, Wt w c (f x)) → Wt w c (.look f)
  | next (c : Nat) (m : Pm α) : Wt w (c + 1) m → Wt w c (.next m)
  | call (c : Nat) (q : NT) (f : Ret q → Pm α) : (∀ a v, wQ q a ≤ wB q + v → Wt w (c + v) (f a)) → Wt w c (.call q f)
theorem run_wt {α : Type} {w : α → Nat} {P : (q : NT) → Nat → Rs (Ret q)} {l : List Tok} (hP : ∀ q i a j, P q i = .ok a j → i ≤ j ∧ wQ q a + i ≤ wB q + j) {c : Nat} {m : Pm α} (hm : Wt w c m) :
    ∀ (i : Nat) (a : α) (j : Nat), run P l m i = .ok a j → w a + i ≤ c + j := by
  induction hm with
  | ret c b h => exact fun i a j hr => by rw [run] at hr; cases hr; omega
  | fail c => exact fun i a j h => by rw [run] at h; cases h
  | tst c s y n _ _ hy hn =>
    intro i a j h
    rw [run] at h
    cases hq : isT s (tk l i)
    · rw [hq] at h; exact hn i a j h
    · rw [hq] at h; exact hy i a j h
  | knd c k y n _ _ hy hn =>
    intro i a j h
    rw [run] at h
    cases hq : (tk l i).kind == k
    · rw [hq] at h; exact hn i a j h
    · rw [hq] at h; exact hy i a j h
  | look c f _ ih => exact fun i a j h => by rw [run] at h; exact ih _ i a j h
  | next c m _ ih => exact fun i a j h => by rw [run] at h; have := ih (i + 1) a j h; omega
  | call c q f _ ih =>
    intro i a j h
    rw [run_call] at h
    cases hq : P q i with
    | ok b k =>
      rw [hq] at h
      have h1 := hP q i b k hq
      have := ih b (k - i) (by omega) k a j h
      omega
    | no k => rw [hq] at h; cases h
    | out => rw [hq] at h; cases h
theorem wE_pos (e : E) : 1 ≤ wE e := by cases e; rw [wE]; omega
theorem wt_body : ∀ q : NT, Wt (wQ q) (wB q) (body q) := by
  intro q
  cases q with
  | level n =>
    match n with
    | 0 | 1 | 2 | 3 | 4 | 5 =>
      refine .call _ _ _ fun a v h => .call _ _ _ fun b u h2 => .ret _ _ ?_
      simp only [wQ, wB] at *
      omega
    | n + 6 =>
      refine .call _ _ _ fun a v h => .ret _ _ ?_
      simp only [wQ, wB] at *
      omega
  | loop n left =>
    have hany : ∀ (y z : Pm E) (ss : List (List UInt8)), Wt (wQ (.loop n left)) (wE left) y → Wt (wQ (.loop n left)) (wE left) z → Wt (wQ (.loop n left)) (wE left) (any ss y z) := fun y z ss hy hz => by
      induction ss with
      | nil => exact hz
      | cons s r ih => exact .tst _ _ _ _ hy ih
    refine hany _ _ _ ?_ (.ret _ _ (Nat.le_refl _))
    refine .look _ _ fun t => .next _ _ (.call _ _ _ fun r v hr => ?_)
    by_cases h : n = 2 ∨ n = 3
    · rw [if_pos h]
      refine .ret _ _ ?_
      simp only [wQ, wB, wE_mk, wEs_cons, wEs_nil, List.length_nil] at *
      omega
    · rw [if_neg h]
      refine .call _ _ _ fun b u h2 => .ret _ _ ?_
      simp only [wQ, wB, wE_mk, wEs_cons, wEs_nil, List.length_nil] at *
      omega
  | _ =>
    unfold body
    repeat' first | (apply Wt.ret; simp only [wQ, wB, wE_mk, wEs_cons, wEs_nil, wT_mk, wTs_cons, wTs_nil, wF, wFs, wFn, wFns, List.length_nil, List.length_cons] at *; omega) | (unfold lets) | (unfold funRest) | (intro _) | (constructor)
theorem parse_wt (l : List Tok) : ∀ (n : Nat) (q : NT) (i : Nat) (a : Ret q) (j : Nat), parse l n q i = .ok a j → i ≤ j ∧ wQ q a + i ≤ wB q + j
  | 0, q, i, a, j, h => by cases h
  | n + 1, q, i, a, j, h => ⟨parse_le l (n + 1) q i a j h, run_wt (parse_wt l n) (wt_body q) i a j h⟩
theorem pw_wt {l : List Tok} {q : NT} {i : Nat} {a : Ret q} {j : Nat} (h : pw l q i = .ok a j) : wQ q a + i ≤ wB q + j := (parse_wt l _ q i a j h).2
end Go.Proofs.Ytbmcafehpgimfaa.Px
/- A program of nothing but its query. -/
namespace Go.Proofs.Ytbmcafehpgimfaa.Px
set_option linter.unusedVariables false
open Lx (Tok)
open Pm

section
variable {l : List Tok}
/-- A token that begins no expression. -/
structure NoStart (t : Tok) : Prop where
  k3 : t.kind ≠ 3
  k1 : t.kind ≠ 1
  words : ∀ s, s ∈ [wLet, wIf, wCase, wObserve, wScore, wNot, wMi, wTrue, wFalse, wLp, wLb, wPick, wFlip, wRange] → isT s t = false
theorem run_take {α : Type} {P : (q : NT) → Nat → Rs (Ret q)} {s : List UInt8} {i : Nat} (h : isT s (tk l i) = false) (y n : Pm α) : run P l (take s y n) i = run P l n i := by
  rw [run, h]
  rfl
theorem run_take_yes {α : Type} {P : (q : NT) → Nat → Rs (Ret q)} {s : List UInt8} {i : Nat} (h : isT s (tk l i) = true) (y n : Pm α) : run P l (take s y n) i = run P l y (i + 1) := by
  rw [run, h]
  rfl
theorem run_knd {α : Type} {P : (q : NT) → Nat → Rs (Ret q)} {k : Int} {i : Nat} (h : (tk l i).kind ≠ k) (y n : Pm α) : run P l (.knd k y n) i = run P l n i := by
  rw [run, beq_eq_false_iff_ne.2 h]
  rfl
theorem atom_no (hl : GoodL l) {i : Nat} (hi : i < l.length) (h : NoStart (tk l i)) : pw l .atom i = .no i := by
  rw [pw_eq hl _ i hi]
  show run (pw l) l (.knd 3 _ (.knd 1 _ _)) i = _
  rw [run_knd h.k3, run_knd h.k1, run_take (h.words _ (by simp)), run_take (h.words _ (by simp)), run_take (h.words _ (by simp)), run_take (h.words _ (by simp)), run_take (h.words _ (by simp)), run_take (h.words _ (by simp)), run_take (h.words _ (by simp))]
  rfl
theorem unary_no (hl : GoodL l) {i : Nat} (hi : i < l.length) (h : NoStart (tk l i)) : pw l .unary i = .no i := by
  rw [pw_eq hl _ i hi]
  show run (pw l) l (take wNot _ (take wMi _ _)) i = _
  rw [run_take (h.words _ (by simp)), run_take (h.words _ (by simp)), run_call, atom_no hl hi h]
  rfl
theorem level_no (hl : GoodL l) {i : Nat} (hi : i < l.length) (h : NoStart (tk l i)) : ∀ d n, 6 - n = d → pw l (.level n) i = .no i
  | 0, n, hd => by
    rw [pw_eq hl _ i hi]
    obtain ⟨n, rfl⟩ : ∃ m, n = m + 6 := ⟨n - 6, by omega⟩
    show run (pw l) l (.call .unary .ret) i = _
    rw [run_call, unary_no hl hi h]
    rfl
  | d + 1, n, hd => by
    have ih := level_no hl hi h d (n + 1) (by omega)
    rw [pw_eq hl _ i hi]
    match n, hd, ih with
    | 0, _, ih | 1, _, ih | 2, _, ih | 3, _, ih | 4, _, ih | 5, _, ih =>
      simp only [body]
      rw [run_call, ih]
      rfl
    | n + 6, hd, _ => omega
theorem expr_no (hl : GoodL l) {i : Nat} (hi : i < l.length) (h : NoStart (tk l i)) : pw l .expr i = .no i := by
  rw [pw_eq hl _ i hi]
  show run (pw l) l (take wLet _ (take wIf _ (take wCase _ (take wObserve _ (take wScore _ _))))) i = _
  rw [run_take (h.words _ (by simp)), run_take (h.words _ (by simp)), run_take (h.words _ (by simp)), run_take (h.words _ (by simp)), run_take (h.words _ (by simp)), run_call, level_no hl hi h 6 0 rfl]
  rfl
theorem isT_not {s w : List UInt8} {t : Tok} (h : isT w t = true) (hne : w ≠ s) : isT s t = false := by
  unfold isT at h ⊢
  rw [Bool.and_eq_true, beq_iff_eq] at h
  rw [h.2, beq_eq_false_iff_ne.2 hne, Bool.and_false]
theorem isT_k {w : List UInt8} {t : Tok} (h : isT w t = true) : t.kind = 4 ∨ t.kind = 2 := by
  unfold isT at h
  rw [Bool.and_eq_true, Bool.or_eq_true, beq_iff_eq, beq_iff_eq] at h
  exact h.1
theorem noStart {w : List UInt8} {t : Tok} (h : isT w t = true) (hw : ∀ s, s ∈ [wLet, wIf, wCase, wObserve, wScore, wNot, wMi, wTrue, wFalse, wLp, wLb, wPick, wFlip, wRange] → w ≠ s) : NoStart t := by
  have := isT_k h
  exact ⟨by omega, by omega, fun s hs => isT_not h (hw s hs)⟩
theorem inputs_none (hl : GoodL l) {i : Nat} (hi : i < l.length) (h : isT wInput (tk l i) = false) : pw l .inputs i = .ok [] i := by
  rw [pw_eq hl _ i hi]
  exact run_take h _ _
theorem funs_none (hl : GoodL l) {i : Nat} (hi : i < l.length) (h : isT wFun (tk l i) = false) : pw l .funs i = .ok [] i := by
  rw [pw_eq hl _ i hi]
  exact run_take h _ _
/-- Where an expression is read, a program of no inputs and functions is. -/
theorem query_of (hl : GoodL l) (h0 : 0 < l.length) {e : E} {j : Nat} (h : pw l .expr 0 = .ok e j) : pw l .program 0 = .ok ⟨[], [], e⟩ j := by
  have h1 : isT wInput (tk l 0) = false := by
    cases hc : isT wInput (tk l 0) with
    | false => rfl
    | true => rw [expr_no hl h0 (noStart hc (by decide))] at h; cases h
  have h2 : isT wFun (tk l 0) = false := by
    cases hc : isT wFun (tk l 0) with
    | false => rfl
    | true => rw [expr_no hl h0 (noStart hc (by decide))] at h; cases h
  rw [pw_eq hl _ 0 h0]
  show run (pw l) l (.call .inputs _) 0 = _
  rw [run_call, inputs_none hl h0 h1]
  show run (pw l) l (.call .funs _) 0 = _
  rw [run_call, funs_none hl h0 h2]
  show run (pw l) l (.call .expr _) 0 = _
  rw [run_call, h]
  rfl
theorem inputs_empty (hl : GoodL l) {i j : Nat} (hi : i < l.length) (h : pw l .inputs i = .ok [] j) : j = i := by
  cases hc : isT wInput (tk l i) with
  | false => rw [inputs_none hl hi hc] at h; cases h; rfl
  | true =>
    rw [pw_eq hl _ i hi] at h
    replace h : run (pw l) l (take wInput (.call .field fun a => want wSc (.call .inputs fun r => .ret (a :: r))) (.ret [])) i = .ok [] j := h
    rw [run_take_yes hc, run_call] at h
    cases ha : pw l .field (i + 1) with
    | no k => rw [ha] at h; cases h
    | out => rw [ha] at h; cases h
    | ok a k =>
      rw [ha] at h
      replace h : run (pw l) l (want wSc (.call .inputs fun r => .ret (a :: r))) k = .ok [] j := h
      rw [run] at h
      cases hs : isT wSc (tk l k) with
      | false => rw [hs] at h; cases h
      | true =>
        rw [hs] at h
        replace h : run (pw l) l (.call .inputs fun r => .ret (a :: r)) (k + 1) = .ok [] j := h
        rw [run_call] at h
        cases hr : pw l .inputs (k + 1) with
        | no k => rw [hr] at h; cases h
        | out => rw [hr] at h; cases h
        | ok r k2 => rw [hr] at h; cases h
theorem funs_empty (hl : GoodL l) {i j : Nat} (hi : i < l.length) (h : pw l .funs i = .ok [] j) : j = i := by
  cases hc : isT wFun (tk l i) with
  | false => rw [funs_none hl hi hc] at h; cases h; rfl
  | true =>
    rw [pw_eq hl _ i hi] at h
    replace h : run (pw l) l (take wFun (.call .fun_ fun a => .call .funs fun r => .ret (a :: r)) (.ret [])) i = .ok [] j := h
    rw [run_take_yes hc, run_call] at h
    cases ha : pw l .fun_ (i + 1) with
    | no k => rw [ha] at h; cases h
    | out => rw [ha] at h; cases h
    | ok a k =>
      rw [ha] at h
      replace h : run (pw l) l (.call .funs fun r => .ret (a :: r)) k = .ok [] j := h
      rw [run_call] at h
      cases hr : pw l .funs k with
      | no k => rw [hr] at h; cases h
      | out => rw [hr] at h; cases h
      | ok r k2 => rw [hr] at h; cases h
/-- And the other way round. -/
theorem query_is (hl : GoodL l) (h0 : 0 < l.length) {p : Pg} {j : Nat} (h : pw l .program 0 = .ok p j) (hi : p.inputs = []) (hf : p.funs = []) : pw l .expr 0 = .ok p.query j := by
  rw [pw_eq hl _ 0 h0] at h
  replace h : run (pw l) l (.call .inputs fun a => .call .funs fun b => .call .expr fun q => .ret (⟨a, b, q⟩ : Pg)) 0 = .ok p j := h
  rw [run_call] at h
  cases ha : pw l .inputs 0 with
  | no k => rw [ha] at h; cases h
  | out => rw [ha] at h; cases h
  | ok a k =>
    rw [ha] at h
    have hk := pw_ok hl h0 ha
    replace h : run (pw l) l (.call .funs fun b => .call .expr fun q => .ret (⟨a, b, q⟩ : Pg)) k = .ok p j := h
    rw [run_call] at h
    cases hb : pw l .funs k with
    | no k => rw [hb] at h; cases h
    | out => rw [hb] at h; cases h
    | ok b k2 =>
      rw [hb] at h
      have hk2 := pw_ok hl hk.2 hb
      replace h : run (pw l) l (.call .expr fun q => .ret (⟨a, b, q⟩ : Pg)) k2 = .ok p j := h
      rw [run_call] at h
      cases hq : pw l .expr k2 with
      | no k => rw [hq] at h; cases h
      | out => rw [hq] at h; cases h
      | ok q k3 =>
        rw [hq] at h
        cases h
        cases hi
        cases hf
        have e1 := inputs_empty hl h0 ha
        subst e1
        have e2 := funs_empty hl h0 hb
        subst e2
        exact hq
end
end Go.Proofs.Ytbmcafehpgimfaa.Px
