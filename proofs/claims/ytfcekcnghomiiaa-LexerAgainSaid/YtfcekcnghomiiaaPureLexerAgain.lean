/- LexerAgain: the text of a text's tokens has the same tokens, their places aside, and the same text; for every string; no condition. -/
import Derived.Test.YtfcekcnghomiiaaLexH
import Derived.Test.YtfcekcnghomiiaaX25
import Derived.Test.YtfcekcnghomiiaaLexI
namespace Go.Proofs.Ytfcekcnghomiiaa.Pure
open Go.RowKit Go.Proofs.Ytfcekcnghomiiaa Go.Proofs.Ytfcekcnghomiiaa.X Go.Proofs.Ytfcekcnghomiiaa.Lx Go.Proofs.YtfcekcnghomiiaaW.PrintWords Go.Proofs.YtfcekcnghomiiaaW.PrintLast

theorem bare_at {a b : List Tok} (h : a.map bare = b.map bare) (i : Nat) (h1 : i < a.length) (h2 : i < b.length) : bare a[i] = bare b[i] := by
  have e1 : (a.map bare)[i]? = (b.map bare)[i]? := by rw [h]
  rw [List.getElem?_map, List.getElem?_map, List.getElem?_eq_getElem h1, List.getElem?_eq_getElem h2] at e1
  simpa using e1

theorem unplaced_l0 (a b : List Tok) (h : a.map bare = b.map bare) (hl : a.length ≤ 1000000) : ∀ (d i : Nat), i ≤ a.length → a.length - i = d → Ev (fun k => sortilegelaw05_unplaced.l0 k (a.map t36) (b.map t36) (i : Int)) true := by
  have hlen : a.length = b.length := by have := congrArg List.length h; rwa [List.length_map, List.length_map] at this
  intro d
  induction d with
  | zero =>
    intro i hi hd
    refine ev0 fun k => ?_
    simp only [sortilegelaw05_unplaced.l0]
    rw [if_neg (by rw [List.length_map]; omega)]
  | succ d ih =>
    intro i hi hd
    have hlt : i < a.length := by omega
    have hlt2 : i < b.length := by omega
    have hb := bare_at h i hlt hlt2
    unfold bare at hb
    injection hb with hb1 hb2
    injection hb2 with hb2 hb3
    have h2 := ih (i + 1) (by omega) (by omega)
    have h3 : Ev (fun k => sortilegelaw05_unplaced.j1 k (a.map t36) (b.map t36) (i : Int) false) true := by
      refine ev1 h2 fun k hk => ?_
      simp only [sortilegelaw05_unplaced.j1]
      rw [if_neg (by decide), w1 i (by omega)]
      exact hk
    refine ev1 h3 fun k hk => ?_
    simp only [sortilegelaw05_unplaced.l0]
    have e1 : (t36 a[i]).f0 = (t36 b[i]).f0 := hb1
    have e2 : (t36 a[i]).f1 = (t36 b[i]).f1 := congrArg bx hb2
    have e3 : ((t36 a[i]).f2 != (t36 b[i]).f2) = false := by
      have : (t36 a[i]).f2 = (t36 b[i]).f2 := hb3
      rw [this]; simp
    rw [if_pos (by rw [List.length_map]; omega), if_pos (by omega), if_pos (by rw [List.length_map]; omega), rd36 a i hlt, rd36 b i hlt2, if_pos e1, e2, if_pos rfl, e3]
    exact hk

theorem unplaced_f (a b : List Tok) (h : a.map bare = b.map bare) (hl : a.length ≤ 1000000) : Ev (fun k => sortilegelaw05_unplaced.f k (a.map t36) (b.map t36)) true := by
  have hlen : a.length = b.length := by have := congrArg List.length h; rwa [List.length_map, List.length_map] at this
  refine ev1z (unplaced_l0 a b h hl _ 0 (by omega) rfl) fun k hk => ?_
  unfold sortilegelaw05_unplaced.f
  rw [if_pos (by rw [List.length_map, List.length_map]; omega)]
  exact hk

theorem texts_bare : ∀ (a b : List Tok), a.map bare = b.map bare → texts a = texts b
  | [], [], _ => rfl
  | [], _ :: _, h => by cases h
  | _ :: _, [], h => by cases h
  | x :: a, y :: b, h => by
    rw [List.map_cons, List.map_cons] at h
    injection h with h1 h2
    have ih := texts_bare a b h2
    unfold bare at h1
    injection h1 with e1 e2
    injection e2 with e2 e3
    have hx : texts (x :: a) = texts [x] ++ texts a := texts_append [x] a
    have hy : texts (y :: b) = texts [y] ++ texts b := texts_append [y] b
    rw [hx, hy, ih, texts_one, texts_one, e1, e2]

theorem LexerAgain : sortilegelaw05_LexerAgain.Pure := by
  intro s _
  obtain ⟨l, rfl⟩ : ∃ l, s = bx l := ⟨_, (bx_self s).symm⟩
  apply Ev.rounds
  have h1 := tokens_f l
  have skip : ∀ q, Ev (fun k => sortilegelaw05_LexerAgain.j0 k q true) true := by
    intro q
    refine ev1 awake_f fun k hk => ?_
    simp only [sortilegelaw05_LexerAgain.j0]
    rw [if_pos trivial, hk]
    rfl
  by_cases h9 : 9000 < l.length
  · refine ev2z h1 (skip (out36 [] (lex l)).1) fun k hk hk2 => ?_
    unfold sortilegelaw05_LexerAgain.f
    rw [hk]
    rw [Option.bind_some]
    rw [if_pos (by rw [bx_size]; omega)]
    exact hk2
  cases hx : lex l with
  | error f =>
    rw [hx] at h1
    have hs : scan l 1 1 = .error f := by unfold lex at hx; rw [if_neg (by omega)] at hx; exact hx
    have hfe := scan_err _ l 1 1 f (Nat.le_refl _) hs
    refine ev2z h1 (skip []) fun k hk hk2 => ?_
    unfold sortilegelaw05_LexerAgain.f
    rw [hk]
    rw [Option.bind_some]
    have e : (f.e != 0) = true := by simpa using hfe
    rw [if_neg (by rw [bx_size]; omega)]
    show sortilegelaw05_LexerAgain.j0 k [] (f.e != 0) = some true
    rw [e]
    exact hk2
  | ok ts =>
    rw [hx] at h1
    have hs : scan l 1 1 = .ok ts := by unfold lex at hx; rw [if_neg (by omega)] at hx; exact hx
    have hg := scan_good _ l 1 1 ts (Nat.le_refl _) hs
    have hln := scan_len _ l 1 1 ts (Nat.le_refl _) hs
    have hjl := joinT_len _ l 1 1 ts (Nat.le_refl _) hs
    have hgt : Lib.join (texts ts) [32] = joinT ts := good_texts ts hg
    obtain ⟨us, hus, hb⟩ := scan_joinT ts hg 1 1
    have hul : us.length = ts.length := by have := congrArg List.length hb; rwa [List.length_map, List.length_map] at this
    have hut : texts us = texts ts := texts_bare us ts hb
    have t1 := text_f ts (by omega) (by rw [joined_bx, bx_size, hgt]; omega)
    have t2 := text_f us (by omega) (by rw [joined_bx, bx_size, hut, hgt]; omega)
    rw [joined_bx, hgt] at t1
    rw [joined_bx, hut, hgt] at t2
    have k1 := tokens_f (joinT ts)
    have hlx : lex (joinT ts) = .ok us := by unfold lex; rw [if_neg (by omega)]; exact hus
    rw [hlx] at k1
    have u1 := unplaced_f ts us hb.symm (by omega)
    have hj : Ev (fun k => sortilegelaw05_LexerAgain.j0 k (ts.map t36) false) true := by
      obtain ⟨K1, t1⟩ := t1
      obtain ⟨K2, t2⟩ := t2
      obtain ⟨K3, k1⟩ := k1
      obtain ⟨K4, u1⟩ := u1
      obtain ⟨K5, a1⟩ := awake_f
      refine ⟨K1 + K2 + K3 + K4 + K5 + 1, fun k hk => ?_⟩
      obtain ⟨k, rfl⟩ : ∃ m, k = m + 1 := ⟨k - 1, by omega⟩
      replace t1 := t1 k (by omega)
      replace t2 := t2 k (by omega)
      replace k1 := k1 k (by omega)
      replace u1 := u1 k (by omega)
      replace a1 := a1 k (by omega)
      simp only [] at t1 t2 k1 u1 a1
      show sortilegelaw05_LexerAgain.j0 (k + 1) (ts.map t36) false = _
      simp only [sortilegelaw05_LexerAgain.j0]
      rw [if_neg Bool.false_ne_true, t1, Option.bind_some, k1, Option.bind_some]
      simp only [out36, List.nil_append]
      rw [if_pos trivial, u1, Option.bind_some, if_pos rfl, t2, Option.bind_some, Option.bind_some, if_pos rfl, a1]
      rfl
    refine ev2z h1 hj fun k hk hk2 => ?_
    unfold sortilegelaw05_LexerAgain.f
    rw [hk]
    rw [Option.bind_some]
    rw [if_neg (by rw [bx_size]; omega)]
    exact hk2

end Go.Proofs.Ytfcekcnghomiiaa.Pure
