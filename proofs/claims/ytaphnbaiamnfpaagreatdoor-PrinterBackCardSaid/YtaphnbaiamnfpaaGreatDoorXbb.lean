/- The program's readers of expressions: the loops and the levels. The program's reader of expressions: names, choices, and the head of an expression. The program's reader of atoms; all readers of expressions, by what is left of the text. The program's readers of fields, functions and programs. What the scanner's tokens are like; reading a whole text, with the panic taken up. How deep an expression, a type and a program go. The limits on types and programs. Expr and Program: what they hand back. Same and SameProgram: what they answer. The law of printing and reading back: it holds. -/
import Derived.Test.YtaphnbaiamnfpaaGreatDoorXba
import Derived.Test.YtaphnbaiamnfpaaGreatDoorPvS
import Derived.Test.YtaphnbaiamnfpaaGreatDoorXaa
import Derived.Test.YtaphnbaiamnfpaaGreatDoorPvY
namespace Go.Proofs.YtaphnbaiamnfpaaGreatDoor.Ps
set_option linter.unusedVariables false
set_option linter.unusedSimpArgs false
open Go Go.RowKit Px
open Lx (Tok)
def Nums (l:List Tok):Prop:=∀ i,0<=(tk l i).n∧(tk l i).n<=2147483647
structure AllAt (l:List Tok) (i:Nat):Prop where
 expr:Sim l eV (fun _ k _=>Ak k false 44 [V.one (X.ptr 0 0)] (rds l i)) (pw l .expr i)
 level:∀ n,n<=6->Sim l eV (fun _ k _=>Ak k false 89 [V.one (X.ptr 0 0),V.one (X.d (D.int IntKind.i64 (Int.ofNat n)))] (rds l i)) (pw l (.level n) i)
 unary:Sim l eV (fun _ k _=>Ak k false 110 [V.one (X.ptr 0 0)] (rds l i)) (pw l .unary i)
 atom:Sim l eV (fun _ k _=>Ak k false 125 [V.one (X.ptr 0 0)] (rds l i)) (pw l .atom i)
 list:∀ e,Sim l esV (fun _ k _=>Ak k false 137 [V.one (X.ptr 0 0),V.one (X.d (D.str (bx e)))] (rds l i)) (pw l (.list e) i)
abbrev After (l:List Tok) (i:Nat):Prop:=∀ j,i < j->j < l.length->AllAt l j
section
variable {l:List Tok}
theorem share_ok (hl:Few l) (i:Nat) (hi:i < l.length):Sim l osV (fun _ k _=>Ak k false 88 [V.one (X.ptr 0 0)] (rds l i)) (pw l .share i):=by
 have g:=hl.good
 rw [kaC g _ i hi]
 refine fun hr=>kHN _ _ ((?_:Sim l osV (fun _ k n=>e88 (Ak k) n (toks l) (Int.ofNat i)) (run (pw l) l (body .share) i)) hr)
 clear hr
 simp only [kHw]
 refine kcP hl.len hi 3 (fun _ _ _ _ _ _=>rfl) fun h=>?_
 have h1:=nxk g hi h (by decide)
 refine kaK hl.len h1 wSl (fun _ _ _ _ _ _=>rfl) fun h2=>?_
 have h3:=nx g h1 h2
 refine kcP hl.len h3 3 (fun _ _ _ _ _ _=>rfl) fun h4=>?_
 exact Sim.ret fun _ _ _=>rfl
theorem bound_ok (hl:Few l) (hn:Nums l) (i:Nat) (hi:i < l.length):Sim l nV (fun _ k _=>Ak k false 138 [V.one (X.ptr 0 0)] (rds l i)) (pw l .bound i):=by
 have g:=hl.good
 rw [kaC g _ i hi]
 refine fun hr=>kCL _ _ ((?_:Sim l nV (fun _ k n=>e138 (Ak k) n (toks l) (Int.ofNat i)) (run (pw l) l (body .bound) i)) hr)
 clear hr
 simp only [kCC]
 refine kaY hl.len hi wMi (fun h=>Sim.yes rfl ?_) (fun h=>Sim.no rfl ?_)
 · have h1:=nx g hi h
   refine kcP hl.len h1 3 (fun _ _ _ _ _ _=>rfl) fun h2=>Sim.ret fun _ _ _=>?_
   have:=hn (i+1)
   rw [wrap_in _ (by omega) (by omega)]
   show some (Out.mk true (V.one (X.d (D.int IntKind.i64 (0 - (tk l (i+1)).n)))) D.junk _ 0)=some (Out.mk true (V.one (X.d (D.int IntKind.i64 (-(tk l (i+1)).n)))) D.junk _ 0)
   rw [Int.zero_sub]
 · simp only [ktp]
   exact kcP hl.len hi 3 (fun _ _ _ _ _ _=>rfl) fun h2=>Sim.ret fun _ _ _=>rfl
theorem rest_ok (hl:Few l) (e:List UInt8):∀ (d i:Nat),i < l.length->l.length - i<=d->After l i->∀ (acc:List E) z z',acc.length<=i ->
 Sim l esV (fun m k n=>koS m (Ak k) n z z' (bx e) (E.rows acc) (toks l) (Int.ofNat i)) (run (pw l) l (.call (.rest e) fun r=>.ret (acc++r)) i)
 | 0,i,hi,h,_,_,_,_,_=>by omega
 | d+1,i,hi,h,H,acc,z,z',ha=>by
  have g:=hl.good
  rw [kbF g _ _ i hi]
  refine Sim.step ?_
  simp only [ktr]
  refine kaY hl.len hi wCm (fun h=>Sim.yes rfl ?_) (fun h=>Sim.no rfl ?_)
  · have h1:=nx g hi h
    simp only [ktv]
    refine Eq.subst (motive:=fun r=>Sim l esV _ r) (kai _ _ _).symm ?_
    refine S_E (H _ (by omega) h1).expr (fun _ _ _ _ _ _=>rfl) fun a j hj=>?_
    have hf:=kbf g h1 hj
    refine Sim.yes (by rw [E.rows_len];exact roomy _ _ (by have:=hl.len;omega) (by omega)) ?_
    rw [<- E.rows_app]
    have:=rest_ok hl e d j hf.2 (by omega) (fun j' h1 h2=>H j' (by omega) h2) (acc++[a]) z z' (by rw [List.length_append,List.length_singleton];omega)
    simp only [List.append_assoc,List.singleton_append] at this
    exact this
  · simp only [ktw]
    refine kaK hl.len hi e (fun _ _ _ _ _ _=>rfl) fun h2=>Sim.ret fun _ _ _=>?_
    rw [List.append_nil]
    rfl
theorem list_ok (hl:Few l) (e:List UInt8) (i:Nat) (hi:i < l.length) (H:After l i) (he:Sim l eV (fun _ k _=>Ak k false 44 [V.one (X.ptr 0 0)] (rds l i)) (pw l .expr i)) (hpos:∀ a j,pw l .expr i=.ok a j->i < j) :
 Sim l esV (fun _ k _=>Ak k false 137 [V.one (X.ptr 0 0),V.one (X.d (D.str (bx e)))] (rds l i)) (pw l (.list e) i):=by
 have g:=hl.good
 rw [kaC g _ i hi]
 refine fun hr=>kCK _ _ _ ((?_:Sim l esV (fun _ k n=>e137 (Ak k) n (bx e) (toks l) (Int.ofNat i)) (run (pw l) l (body (.list e)) i)) hr)
 clear hr
 simp only [kCB]
 refine kaY hl.len hi e (fun h=>Sim.yes rfl (Sim.ret fun _ _ _=>?_)) (fun h=>Sim.no rfl ?_)
 · unfold esV
   rw [E.rows_nil]
 · simp only [ktn]
   refine Eq.subst (motive:=fun r=>Sim l esV _ r) (kai _ _ _).symm ?_
   refine S_E he (fun _ _ _ _ _ _=>rfl) fun a j hj=>?_
   have hf:=kbf g hi hj
   have hp:=hpos a j hj
   rw [<- E.rows_one]
   exact Sim.diag (rest_ok hl e _ j hf.2 (Nat.le_refl _) (fun j' h1 h2=>H j' (by omega) h2) [a] _ _ (by simp only [List.length_cons,List.length_nil];omega))
theorem kqP (hl:Few l) (n:Nat) (hn:n<=5):∀ (d i:Nat),i < l.length->l.length - i<=d->After l i->∀ (left:E) z z' x3 x4 s5 x6 x7,
 Sim l eV (fun m k _=>kCv m (Ak k) z z' (Int.ofNat n) (toks l) (Int.ofNat i) x3 x4 s5 x6 x7 left.k left.n (bx left.name) (strs left.names) (ints left.odds) (E.rows left.kids) left.line left.col) (run (pw l) l (.call (.loop n left) .ret) i) ∧
 (left.names=[]->left.odds=[]->Sim l eV (fun m k _=>kfK m (Ak k) z z' (Int.ofNat n) (toks l) (Int.ofNat i) x3 x4 s5 x6 x7 left.k left.n (bx left.name) (E.rows left.kids) left.line left.col) (run (pw l) l (.call (.loop n left) .ret) i))
 | 0,i,hi,h,_,_,_,_,_,_,_,_,_=>by omega
 | d+1,i,hi,h,H,left,z,z',x3,x4,s5,x6,x7=>by
  have g:=hl.good
  have hop:=kDo hi n hn
  have e0:run (pw l) l (.call (.loop n left) .ret) i=if (kbk n).any (fun s=>isT s (tk l i)) then
   run (pw l) l (.call (.level (if n=3 then 3 else n+1)) fun r=>if n=2∨n=3 then .ret (E.mk 7 0 (tk l i).text [] [] [left,r] (tk l i).line (tk l i).col) else .call (.loop n (E.mk 7 0 (tk l i).text [] [] [left,r] (tk l i).line (tk l i).col)) .ret) (i+1) else .ok left i:=by
   have:run (pw l) l (.call (.loop n left) .ret) i=run (pw l) l (body (.loop n left)) i:=by
    rw [kai,kaC g _ i hi]
    cases run (pw l) l (body (.loop n left)) i<;>rfl
   rw [this]
   exact kqO _ _ i (kbk n)
  have go:∀ {F:Nat->Nat->Nat->Option Out},(kbk n).any (fun s=>isT s (tk l i))=true ->
   (i+1 < l.length->Sim l eV F (kdE (pw l (.level (if n=3 then 3 else n+1)) (i+1)) fun r j=>run (pw l) l (if n=2∨n=3 then .ret (E.mk 7 0 (tk l i).text [] [] [left,r] (tk l i).line (tk l i).col) else .call (.loop n (E.mk 7 0 (tk l i).text [] [] [left,r] (tk l i).line (tk l i).col)) .ret) j)) ->
   Sim l eV F (run (pw l) l (.call (.loop n left) .ret) i):=fun {F} ha hf=>by
   rw [e0,if_pos ha,kai]
   obtain ⟨s,_,hs⟩:=List.any_eq_true.1 ha
   exact hf (nx g hi hs)
  have stop:(kbk n).any (fun s=>isT s (tk l i))=false->∀ {F:Nat->Nat->Nat->Option Out},(∀ m k n',F m k n'=some ⟨true,eV left,D.junk,[rd l i],0⟩)->Sim l eV F (run (pw l) l (.call (.loop n left) .ret) i):=fun ha {F} hf=>by
   rw [e0,ha]
   exact fun _=>Ev.of hf
  have ne:(kbk n).any (fun s=>isT s (tk l i))=true->beqL (bx (tk l i).text).data.toList (ByteArray.mk #[]).data.toList=false:=fun ha=>by
   obtain ⟨s,hs,ht⟩:=List.any_eq_true.1 ha
   rw [show (ByteArray.mk #[]).data.toList=[] from rfl,kbz,kcZ]
   unfold isT at ht
   rw [Bool.and_eq_true,beq_iff_eq] at ht
   rw [ht.2]
   have:s ≠ []:=fun e=>by
    subst e
    match n,hn with
    | 0,_ | 1,_ | 2,_ | 3,_ | 4,_ | 5,_=>simp [kbk] at hs
   simpa using this
  have rows2:∀ r:E,[[D.int IntKind.i64 left.k,D.int IntKind.i64 left.n,D.str (bx left.name),D.list 1 (strs left.names),D.list 1 (ints left.odds),D.list 8 (E.rows left.kids),D.int IntKind.i64 left.line,D.int IntKind.i64 left.col],
   [D.int IntKind.i64 r.k,D.int IntKind.i64 r.n,D.str (bx r.name),D.list 1 (strs r.names),D.list 1 (ints r.odds),D.list 8 (E.rows r.kids),D.int IntKind.i64 r.line,D.int IntKind.i64 r.col]]=E.rows [left,r]:=fun r=>by rw [E.rows_cons,E.rows_cons,E.rows_nil]
  have b3:(Int.ofNat n==3)=decide (n=3):=by
   rw [Bool.eq_iff_iff,beq_iff_eq,decide_eq_true_eq]
   simp only [Int.ofNat_eq_natCast]
   omega
  have b2:(Int.ofNat n==2)=decide (n=2):=by
   rw [Bool.eq_iff_iff,beq_iff_eq,decide_eq_true_eq]
   simp only [Int.ofNat_eq_natCast]
   omega
  have fin:∀ r j,i+1<=j->j < l.length->∀ z z' x3 x4 s5 x6 x7 {F:Nat->Nat->Nat->Option Out},
   (∀ m k n',F m k n'=bif Int.ofNat n==2 then some (Out.mk true (eV (E.mk 7 0 (tk l i).text [] [] [left,r] (tk l i).line (tk l i).col)) D.junk [rd l j] 0) else bif Int.ofNat n==3 then some (Out.mk true (eV (E.mk 7 0 (tk l i).text [] [] [left,r] (tk l i).line (tk l i).col)) D.junk [rd l j] 0) else
    kfK m (Ak k) z z' (Int.ofNat n) (toks l) (Int.ofNat j) x3 x4 s5 x6 x7 7 0 (bx (tk l i).text) (E.rows [left,r]) (tk l i).line (tk l i).col) ->
   Sim l eV F (run (pw l) l (if n=2∨n=3 then .ret (E.mk 7 0 (tk l i).text [] [] [left,r] (tk l i).line (tk l i).col) else .call (.loop n (E.mk 7 0 (tk l i).text [] [] [left,r] (tk l i).line (tk l i).col)) .ret) j):=fun r j hj hjl z z' x3 x4 s5 x6 x7 F hF=>by
   refine Sim.eq ?_ hF
   rw [b2,b3]
   by_cases h2:n=2
   · rw [decide_eq_true h2,if_pos (.inl h2)]
     exact Sim.ret fun _ _ _=>rfl
   · rw [decide_eq_false h2]
     by_cases h3:n=3
     · rw [decide_eq_true h3,if_pos (.inr h3)]
       exact Sim.ret fun _ _ _=>rfl
     · rw [decide_eq_false h3,if_neg (fun q=>q.elim h2 h3)]
       exact (kqP hl n hn d j hjl (by omega) (fun j' h1 h2=>H j' (by omega) h2) (E.mk 7 0 (tk l i).text [] [] [left,r] (tk l i).line (tk l i).col) z z' x3 x4 s5 x6 x7).2 rfl rfl
  refine ⟨?_,fun hns hos=>?_⟩
  · refine Sim.step ?_
    simp only [kw9]
    refine fun hr=>kaF (kc1 hi) (kn7 hop ?_)
    cases ha:(kbk n).any (fun s=>isT s (tk l i)) with
    | false =>
     have e1:opAt n (tk l i)=[]:=by unfold opAt;rw [ha];rfl
     refine (stop ha fun m k n'=>?_) hr
     rw [e1]
     rfl
    | true =>
     have e1:opAt n (tk l i)=(tk l i).text:=by unfold opAt;rw [ha];rfl
     rw [e1]
     refine (go ha fun h1=>?_) hr
     refine Sim.no (ne ha) ?_
     simp only [kxb]
     refine kbt 7 (tk l i) ?_
     rw [up hl.len hi]
     by_cases h3:n=3
     · refine Sim.yes (by rw [b3,decide_eq_true h3]) ?_
       simp only [ko1]
       rw [if_pos h3]
       refine S_E ((H _ (by omega) h1).level 3 (by omega)) (fun _ _ _ _ _ _=>rfl) fun r j hj=>?_
       have hf:=kbf g h1 hj
       refine fin r j hf.1 hf.2 z z' x3 x4 s5 x6 x7 fun m k n'=>?_
       have:=rows2 r
       skip
       unfold eV
       simp only [E.k,E.n,E.name,E.names,E.odds,E.kids,E.line,E.col,ko2,<- this]
       rfl
     · refine Sim.no (by rw [b3,decide_eq_false h3]) ?_
       simp only [ko1]
       rw [if_neg h3,kap n (by omega)]
       refine S_E ((H _ (by omega) h1).level (n+1) (by omega)) (fun _ _ _ _ _ _=>rfl) fun r j hj=>?_
       have hf:=kbf g h1 hj
       refine fin r j hf.1 hf.2 z z' x3 x4 s5 x6 x7 fun m k n'=>?_
       have:=rows2 r
       skip
       unfold eV
       simp only [E.k,E.n,E.name,E.names,E.odds,E.kids,E.line,E.col,ko2,<- this]
       rfl
  · refine Sim.step ?_
    simp only [kmR]
    refine fun hr=>kaF (kc1 hi) (kn7 hop ?_)
    cases ha:(kbk n).any (fun s=>isT s (tk l i)) with
    | false =>
     have e1:opAt n (tk l i)=[]:=by unfold opAt;rw [ha];rfl
     refine (stop ha fun m k n'=>?_) hr
     rw [e1]
     unfold eV
     rw [hns,hos]
     rfl
    | true =>
     have e1:opAt n (tk l i)=(tk l i).text:=by unfold opAt;rw [ha];rfl
     rw [e1]
     refine (go ha fun h1=>?_) hr
     refine Sim.no (ne ha) ?_
     simp only [kmS]
     refine kbt 7 (tk l i) ?_
     rw [up hl.len hi]
     by_cases h3:n=3
     · refine Sim.yes (by rw [b3,decide_eq_true h3]) ?_
       simp only [kh8]
       rw [if_pos h3]
       refine S_E ((H _ (by omega) h1).level 3 (by omega)) (fun _ _ _ _ _ _=>rfl) fun r j hj=>?_
       have hf:=kbf g h1 hj
       refine fin r j hf.1 hf.2 z z' x3 x4 s5 x6 x7 fun m k n'=>?_
       have:=rows2 r
       rw [hns,hos] at this
       unfold eV
       simp only [E.k,E.n,E.name,E.names,E.odds,E.kids,E.line,E.col,kh9,<- this]
       rfl
     · refine Sim.no (by rw [b3,decide_eq_false h3]) ?_
       simp only [kh8]
       rw [if_neg h3,kap n (by omega)]
       refine S_E ((H _ (by omega) h1).level (n+1) (by omega)) (fun _ _ _ _ _ _=>rfl) fun r j hj=>?_
       have hf:=kbf g h1 hj
       refine fin r j hf.1 hf.2 z z' x3 x4 s5 x6 x7 fun m k n'=>?_
       have:=rows2 r
       rw [hns,hos] at this
       unfold eV
       simp only [E.k,E.n,E.name,E.names,E.odds,E.kids,E.line,E.col,kh9,<- this]
       rfl
end
end Go.Proofs.YtaphnbaiamnfpaaGreatDoor.Ps
namespace Go.Proofs.YtaphnbaiamnfpaaGreatDoor.Ps
set_option linter.unusedVariables false
set_option linter.unusedSimpArgs false
open Go Go.RowKit Px
open Lx (Tok)
open Pm (want)
section
variable {l:List Tok} {P:(q:NT)->Nat->Rs (Ret q)}
theorem kdG {k n:Int} {s:List UInt8} {ns:List (List UInt8)} {os:List Int} {ks:List E} {a b:Int} {rows names odds:List (List D)} {j:Nat} {F:Nat->Nat->Nat->Option Out}
 (h1:rows=E.rows ks) (h2:names=strs ns) (h3:odds=ints os)
 (hF:∀ m k' n',F m k' n'=some ⟨true,V.agg [iX k,iX n,sX s,X.d (D.list 1 names),X.d (D.list 1 odds),X.d (D.list 8 rows),iX a,iX b],D.junk,[rd l j],0⟩) :
 Sim l eV F (run P l (.ret (E.mk k n s ns os ks a b)) j):=by
 subst h1 h2 h3
 exact Sim.ret hF
theorem kDp {α:Type} {enc:α->V} {i:Nat} (hi:i < l.length) {K:Nat->Nat->Nat->List (List D)->Int->Option Out} {Q:Nat->Nat->Nat->D->List (List D)->Int->Option Out} (hp:kib Q) :
 Sim l enc (fun m k n=>kaq (Ak k false 75 [V.one (X.ptr 0 0)] (rds l i)) (K m k n) (Q m k n)) (run P l .fail i) :=
 fun hr=>kgl (kkt hi) (Ev.of fun m k n=>hp m k n _ _ _)
theorem E.rows_two (x y:E):E.rows [x,y]=[[D.int IntKind.i64 x.k,D.int IntKind.i64 x.n,D.str (bx x.name),D.list 1 (strs x.names),D.list 1 (ints x.odds),D.list 8 (E.rows x.kids),D.int IntKind.i64 x.line,D.int IntKind.i64 x.col],[D.int IntKind.i64 y.k,D.int IntKind.i64 y.n,D.str (bx y.name),D.list 1 (strs y.names),D.list 1 (ints y.odds),D.list 8 (E.rows y.kids),D.int IntKind.i64 y.line,D.int IntKind.i64 y.col]]:=by
 rw [E.rows_cons,E.rows_cons,E.rows_nil]
theorem E.rows_three (x y z:E):E.rows [x,y,z]=[[D.int IntKind.i64 x.k,D.int IntKind.i64 x.n,D.str (bx x.name),D.list 1 (strs x.names),D.list 1 (ints x.odds),D.list 8 (E.rows x.kids),D.int IntKind.i64 x.line,D.int IntKind.i64 x.col],[D.int IntKind.i64 y.k,D.int IntKind.i64 y.n,D.str (bx y.name),D.list 1 (strs y.names),D.list 1 (ints y.odds),D.list 8 (E.rows y.kids),D.int IntKind.i64 y.line,D.int IntKind.i64 y.col],[D.int IntKind.i64 z.k,D.int IntKind.i64 z.n,D.str (bx z.name),D.list 1 (strs z.names),D.list 1 (ints z.odds),D.list 8 (E.rows z.kids),D.int IntKind.i64 z.line,D.int IntKind.i64 z.col]]:=by
 rw [E.rows_cons,E.rows_cons,E.rows_cons,E.rows_nil]
theorem lets_ok (hl:Few l) (i:Nat) (hi:i < l.length) (H:After l i) (t:Tok) (ns:List (List UInt8)) (z':List (List D)) (z3 x2 x3:Int) (s4:ByteArray) (x5 x6:Int) :
 Sim l eV (fun _ k n=>kwt (Ak k) n z' z3 (toks l) (Int.ofNat i) x2 x3 s4 x5 x6 8 0 (bx []) (strs ns) t.line t.col) (run (pw l) l (lets t ns) i):=by
 have g:=hl.good
 simp only [kwR]
 unfold lets
 refine kaK hl.len hi wEq (fun _ _ _ _ _ _=>rfl) fun h=>?_
 have h1:=nx g hi h
 rw [kai]
 refine S_E (H _ (by omega) h1).expr (fun _ _ _ _ _ _=>rfl) fun a j hj=>?_
 have hf:=kbf g h1 hj
 refine kaK hl.len hf.2 wIn (fun _ _ _ _ _ _=>rfl) fun h2=>?_
 have h3:=nx g hf.2 h2
 rw [kai]
 refine S_E (H _ (by omega) h3).expr (fun _ _ _ _ _ _=>rfl) fun b j2 hj2=>?_
 exact kdG (E.rows_two a b).symm rfl rfl fun _ _ _=>rfl
theorem names_ok (hl:Few l) (t:Tok) (z':List (List D)) (z3 x2 x3:Int) (s4:ByteArray) (x5 x6:Int):∀ (d i:Nat),i < l.length->l.length - i<=d->After l i->∀ acc:List (List UInt8),acc.length<=i ->
 Sim l eV (fun m k n=>kws m (Ak k) n z' z3 (toks l) (Int.ofNat i) x2 x3 s4 x5 x6 8 0 (bx []) (strs acc) t.line t.col) (run (pw l) l (.call .names fun r=>lets t (acc++r)) i)
 | 0,i,hi,h,_,_,_=>by omega
 | d+1,i,hi,h,H,acc,ha=>by
  have g:=hl.good
  rw [kbF g _ _ i hi]
  refine Sim.step ?_
  simp only [kwQ]
  refine kaY hl.len hi wCm (fun h=>Sim.yes rfl ?_) (fun h=>Sim.no rfl ?_)
  · have h1:=nx g hi h
    simp only [kw1]
    refine kcP hl.len h1 1 (fun _ _ _ _ _ _=>rfl) fun h2=>?_
    have h3:=nxk g h1 h2 (by decide)
    refine Sim.yes (by rw [kcN];exact roomy _ _ (by have:=hl.len;omega) (by omega)) ?_
    rw [<- km8]
    have:=names_ok hl t z' z3 x2 x3 s4 x5 x6 d (i+1+1) h3 (by omega) (fun j' h1 h2=>H j' (by omega) h2) (acc++[(tk l (i+1)).text]) (by rw [List.length_append,List.length_singleton];omega)
    simp only [List.append_assoc,List.singleton_append] at this
    exact this
  · simp only [kw2]
    refine kaK hl.len hi wRp (fun _ _ _ _ _ _=>rfl) fun h2=>?_
    have h3:=nx g hi h2
    show Sim l eV _ (run (pw l) l (lets t (acc++[])) (i+1))
    rw [List.append_nil]
    exact lets_ok hl (i+1) h3 (fun j' h1 h2=>H j' (by omega) h2) t acc z' z3 x2 x3 s4 x5 x6
theorem kAj (hl:Few l) (i:Nat) (hi:i < l.length) (H:After l i) (t:Tok) (x:E) (z':List (List D)) (z3 x2 x3:Int) (s4:ByteArray) (x5 x6:Int) :
 Sim l eV (fun m k n=>kwu m (Ak k) n z' z3 (strs [wOf,wLb,wRb,wAr]) 4 0 (toks l) (Int.ofNat i) x2 x3 s4 x5 x6 10 0 (bx []) (E.rows [x]) t.line t.col) (run (pw l) l (want wOf (want wLb (want wRb (want wAr (kxG t x))))) i):=by
 have g:=hl.good
 refine Sim.step ?_
 simp only [kfN,kg4,kg5]
 refine Sim.yes rfl (Sim.yes rfl ?_)
 refine kaK hl.len hi wOf (fun _ _ _ _ _ _=>rfl) fun h=>?_
 have h1:=nx g hi h
 refine Sim.step ?_
 simp only [kfN,kg4,kg5]
 refine Sim.yes rfl (Sim.yes rfl ?_)
 refine kaK hl.len h1 wLb (fun _ _ _ _ _ _=>rfl) fun h=>?_
 have h2:=nx g h1 h
 refine Sim.step ?_
 simp only [kfN,kg4,kg5]
 refine Sim.yes rfl (Sim.yes rfl ?_)
 refine kaK hl.len h2 wRb (fun _ _ _ _ _ _=>rfl) fun h=>?_
 have h3:=nx g h2 h
 refine Sim.step ?_
 simp only [kfN,kg4,kg5]
 refine Sim.yes rfl (Sim.yes rfl ?_)
 refine kaK hl.len h3 wAr (fun _ _ _ _ _ _=>rfl) fun h=>?_
 have h4:=nx g h3 h
 refine Sim.step ?_
 simp only [kfN,kw3]
 refine Sim.no rfl ?_
 refine Eq.subst (motive:=fun r=>Sim l eV _ r) (kai _ _ _).symm ?_
 refine S_E (H _ (by omega) h4).expr (fun _ _ _ _ _ _=>rfl) fun a j hj=>?_
 have hf:=kbf g h4 hj
 refine Sim.yes (by rw [E.rows_len];rfl) ?_
 refine kaK hl.len hf.2 wBar (fun _ _ _ _ _ _=>rfl) fun h=>?_
 have h5:=nx g hf.2 h
 refine kcP hl.len h5 1 (fun _ _ _ _ _ _=>rfl) fun h=>?_
 have h6:=nxk g h5 h (by decide)
 refine kaK hl.len h6 wCc (fun _ _ _ _ _ _=>rfl) fun h=>?_
 have h7:=nx g h6 h
 refine kcP hl.len h7 1 (fun _ _ _ _ _ _=>rfl) fun h=>?_
 have h8:=nxk g h7 h (by decide)
 refine kaK hl.len h8 wAr (fun _ _ _ _ _ _=>rfl) fun h=>?_
 have h9:=nx g h8 h
 refine Eq.subst (motive:=fun r=>Sim l eV _ r) (kai _ _ _).symm ?_
 refine S_E (H _ (by omega) h9).expr (fun _ _ _ _ _ _=>rfl) fun b j2 hj2=>?_
 refine Sim.yes (by rw [List.length_append,E.rows_len];rfl) ?_
 refine kdG ?_ rfl rfl fun _ _ _=>rfl
 rw [<- E.rows_app,<- E.rows_app]
 rfl
theorem kAk (hl:Few l) (i:Nat) (hi:i < l.length) (H:After l i) (h0:Sim l eV (fun _ k _=>Ak k false 89 [V.one (X.ptr 0 0),V.one (X.d (D.int IntKind.i64 0))] (rds l i)) (pw l (.level 0) i)) :
 Sim l eV (fun _ k _=>Ak k false 44 [V.one (X.ptr 0 0)] (rds l i)) (pw l .expr i):=by
 have g:=hl.good
 rw [kaC g _ i hi]
 refine fun hr=>kHK _ _ ((?_:Sim l eV (fun _ k n=>e44 (Ak k) n (toks l) (Int.ofNat i)) (run (pw l) l (body .expr) i)) hr)
 clear hr
 simp only [kHt]
 refine klH hi ?_
 refine kaY hl.len hi wLet (fun h=>Sim.yes rfl ?_) (fun h=>Sim.no rfl ?_)
 · have h1:=nx g hi h
   refine kbt 8 (tk l i) ?_
   refine kaY hl.len h1 wLp (fun h=>Sim.yes rfl ?_) (fun h=>Sim.no rfl ?_)
   · have h2:=nx g h1 h
     refine kcP hl.len h2 1 (fun _ _ _ _ _ _=>rfl) fun h=>?_
     have h3:=nxk g h2 h (by decide)
     refine kaK hl.len h3 wCm (fun _ _ _ _ _ _=>rfl) fun h=>?_
     have h4:=nx g h3 h
     refine kcP hl.len h4 1 (fun _ _ _ _ _ _=>rfl) fun h=>?_
     have h5:=nxk g h4 h (by decide)
     exact Sim.diag (names_ok hl (tk l i) _ _ _ _ _ _ _ _ _ h5 (Nat.le_refl _) (fun j' h1 h2=>H j' (by omega) h2) [(tk l (i+1+1)).text,(tk l (i+1+1+1+1)).text] (by simp only [List.length_cons,List.length_nil];omega))
   · refine kcP hl.len h1 1 (fun _ _ _ _ _ _=>rfl) fun h=>?_
     have h3:=nxk g h1 h (by decide)
     exact lets_ok hl _ h3 (fun j' h1 h2=>H j' (by omega) h2) (tk l i) [(tk l (i+1)).text] _ _ _ _ _ _ _
 refine kaY hl.len hi wIf (fun h=>Sim.yes rfl ?_) (fun h=>Sim.no rfl ?_)
 · have h1:=nx g hi h
   refine kbt 9 (tk l i) ?_
   refine Eq.subst (motive:=fun r=>Sim l eV _ r) (kai _ _ _).symm ?_
   refine S_E (H _ (by omega) h1).expr (fun _ _ _ _ _ _=>rfl) fun a j hj=>?_
   have hf:=kbf g h1 hj
   refine kaK hl.len hf.2 kj7 (fun _ _ _ _ _ _=>rfl) fun h=>?_
   have h2:=nx g hf.2 h
   refine Eq.subst (motive:=fun r=>Sim l eV _ r) (kai _ _ _).symm ?_
   refine S_E (H _ (by omega) h2).expr (fun _ _ _ _ _ _=>rfl) fun b j2 hj2=>?_
   have hf2:=kbf g h2 hj2
   refine kaK hl.len hf2.2 kiX (fun _ _ _ _ _ _=>rfl) fun h=>?_
   have h3:=nx g hf2.2 h
   refine Eq.subst (motive:=fun r=>Sim l eV _ r) (kai _ _ _).symm ?_
   refine S_E (H _ (by omega) h3).expr (fun _ _ _ _ _ _=>rfl) fun c j3 hj3=>?_
   exact kdG (E.rows_three a b c).symm rfl rfl fun _ _ _=>rfl
 refine kaY hl.len hi kgB (fun h=>Sim.yes rfl ?_) (fun h=>Sim.no rfl ?_)
 · have h1:=nx g hi h
   refine kbt 10 (tk l i) ?_
   refine Eq.subst (motive:=fun r=>Sim l eV _ r) (kai _ _ _).symm ?_
   refine S_E (H _ (by omega) h1).expr (fun _ _ _ _ _ _=>rfl) fun a j hj=>?_
   have hf:=kbf g h1 hj
   rw [<- E.rows_one]
   exact Sim.diag (kAj hl j hf.2 (fun j' h1 h2=>H j' (by omega) h2) (tk l i) a _ _ _ _ _ _ _)
 refine kaY hl.len hi kbK (fun h=>Sim.yes rfl ?_) (fun h=>Sim.no rfl ?_)
 · have h1:=nx g hi h
   refine kbt 11 (tk l i) ?_
   refine Eq.subst (motive:=fun r=>Sim l eV _ r) (kai _ _ _).symm ?_
   refine S_E (H _ (by omega) h1).expr (fun _ _ _ _ _ _=>rfl) fun a j hj=>?_
   have hf:=kbf g h1 hj
   refine kaK hl.len hf.2 wIn (fun _ _ _ _ _ _=>rfl) fun h=>?_
   have h2:=nx g hf.2 h
   refine Eq.subst (motive:=fun r=>Sim l eV _ r) (kai _ _ _).symm ?_
   refine S_E (H _ (by omega) h2).expr (fun _ _ _ _ _ _=>rfl) fun b j2 hj2=>?_
   exact kdG (E.rows_two a b).symm rfl rfl fun _ _ _=>rfl
 refine kaY hl.len hi kdw (fun h=>Sim.yes rfl ?_) (fun h=>Sim.no rfl ?_)
 · have h1:=nx g hi h
   refine kbt 12 (tk l i) ?_
   refine Eq.subst (motive:=fun r=>Sim l eV _ r) (kai _ _ _).symm ?_
   refine S_O (share_ok hl _ h1) (fun _ _ _ _ _ _=>rfl) fun a j hj=>?_
   have hf:=kbf g h1 hj
   refine kaK hl.len hf.2 wIn (fun _ _ _ _ _ _=>rfl) fun h=>?_
   have h2:=nx g hf.2 h
   refine Eq.subst (motive:=fun r=>Sim l eV _ r) (kai _ _ _).symm ?_
   refine S_E (H _ (by omega) h2).expr (fun _ _ _ _ _ _=>rfl) fun b j2 hj2=>?_
   exact kdG (E.rows_one b).symm rfl rfl fun _ _ _=>rfl
 simp only [kwS]
 refine Eq.subst (motive:=fun r=>Sim l eV _ r) (kai _ _ _).symm ?_
 exact S_E h0 (fun _ _ _ _ _ _=>rfl) fun a j hj=>Sim.ret fun _ _ _=>rfl
theorem kue (hl:Few l) (i:Nat) (hi:i < l.length) (H:After l i) (h0:Sim l eV (fun _ k _=>Ak k false 125 [V.one (X.ptr 0 0)] (rds l i)) (pw l .atom i)) :
 Sim l eV (fun _ k _=>Ak k false 110 [V.one (X.ptr 0 0)] (rds l i)) (pw l .unary i):=by
 have g:=hl.good
 rw [kaC g _ i hi]
 refine fun hr=>kCI _ _ ((?_:Sim l eV (fun _ k n=>e110 (Ak k) n (toks l) (Int.ofNat i)) (run (pw l) l (body .unary) i)) hr)
 clear hr
 simp only [kCz,ktg]
 refine klH hi ?_
 refine kaY hl.len hi wNot (fun h=>Sim.yes rfl ?_) (fun h=>Sim.no rfl ?_)
 · have h1:=nx g hi h
   refine kbt 7 (tk l i) ?_
   refine Eq.subst (motive:=fun r=>Sim l eV _ r) (kai _ _ _).symm ?_
   refine S_E (H _ (by omega) h1).unary (fun _ _ _ _ _ _=>rfl) fun a j hj=>?_
   exact kdG (E.rows_one a).symm rfl rfl fun _ _ _=>rfl
 refine kaY hl.len hi wMi (fun h=>Sim.yes rfl ?_) (fun h=>Sim.no rfl ?_)
 · have h1:=nx g hi h
   refine kbt 7 (tk l i) ?_
   refine Eq.subst (motive:=fun r=>Sim l eV _ r) (kai _ _ _).symm ?_
   refine S_E (H _ (by omega) h1).unary (fun _ _ _ _ _ _=>rfl) fun a j hj=>?_
   exact kdG (E.rows_one a).symm rfl rfl fun _ _ _=>rfl
 refine Eq.subst (motive:=fun r=>Sim l eV _ r) (kai _ _ _).symm ?_
 exact S_E h0 (fun _ _ _ _ _ _=>rfl) fun a j hj=>Sim.ret fun _ _ _=>rfl
theorem kpg (n:Nat) (hn:n<=5):body (.level n)=.call (.level (n+1)) fun l=>.call (.loop n l) .ret:=by
 match n,hn with
 | 0,_ | 1,_ | 2,_ | 3,_ | 4,_ | 5,_=>rfl
theorem kea (hl:Few l) (n:Nat) (hn:n<=5) (i:Nat) (hi:i < l.length) (H:After l i)
 (h0:Sim l eV (fun _ k _=>Ak k false 89 [V.one (X.ptr 0 0),V.one (X.d (D.int IntKind.i64 (Int.ofNat (n+1))))] (rds l i)) (pw l (.level (n+1)) i)) :
 Sim l eV (fun _ k _=>Ak k false 89 [V.one (X.ptr 0 0),V.one (X.d (D.int IntKind.i64 (Int.ofNat n)))] (rds l i)) (pw l (.level n) i):=by
 have g:=hl.good
 rw [kaC g _ i hi,kpg n hn]
 refine fun hr=>kzv _ _ _ ((?_:Sim l eV (fun _ k n'=>e89 (Ak k) n' (Int.ofNat n) (toks l) (Int.ofNat i)) (run (pw l) l (.call (.level (n+1)) fun l=>.call (.loop n l) .ret) i)) hr)
 clear hr
 simp only [kzr,kw6]
 refine Sim.no (by rw [beq_eq_false_iff_ne];simp only [Int.ofNat_eq_natCast];omega) ?_
 rw [kap n (by omega)]
 refine Eq.subst (motive:=fun r=>Sim l eV _ r) (kai _ _ _).symm ?_
 refine S_E h0 (fun _ _ _ _ _ _=>rfl) fun a j hj=>?_
 have hf:=kbf g hi hj
 exact Sim.diag (kqP hl n hn _ j hf.2 (Nat.le_refl _) (fun j' h1 h2=>H j' (by omega) h2) a _ _ _ _ _ _ _).1
theorem kqQ (hl:Few l) (i:Nat) (hi:i < l.length)
 (h0:Sim l eV (fun _ k _=>Ak k false 110 [V.one (X.ptr 0 0)] (rds l i)) (pw l .unary i)) :
 Sim l eV (fun _ k _=>Ak k false 89 [V.one (X.ptr 0 0),V.one (X.d (D.int IntKind.i64 (Int.ofNat 6)))] (rds l i)) (pw l (.level 6) i):=by
 have g:=hl.good
 rw [kaC g _ i hi]
 refine fun hr=>kzv _ _ _ ((?_:Sim l eV (fun _ k n'=>e89 (Ak k) n' (Int.ofNat 6) (toks l) (Int.ofNat i)) (run (pw l) l (.call .unary .ret) i)) hr)
 clear hr
 simp only [kzr]
 refine Sim.yes rfl ?_
 refine Eq.subst (motive:=fun r=>Sim l eV _ r) (kai _ _ _).symm ?_
 exact S_E h0 (fun _ _ _ _ _ _=>rfl) fun a j hj=>Sim.ret fun _ _ _=>rfl
end
end Go.Proofs.YtaphnbaiamnfpaaGreatDoor.Ps
namespace Go.Proofs.YtaphnbaiamnfpaaGreatDoor.Ps
set_option linter.unusedVariables false
set_option linter.unusedSimpArgs false
open Go Go.RowKit Px
open Lx (Tok)
section
variable {l:List Tok} {P:(q:NT)->Nat->Rs (Ret q)}
theorem kDq {α:Type} {enc:α->V} (κ:Int) {i:Nat} {F G:Nat->Nat->Nat->Option Out} {y n:Pm α} (hy:(tk l i).kind=κ->Sim l enc F (run P l y i)) (hn:(tk l i).kind ≠ κ->Sim l enc G (run P l n i)) :
 Sim l enc (fun m k n'=>bif (tk l i).kind==κ then F m k n' else G m k n') (run P l (.knd κ y n) i):=by
 unfold run
 cases h:(tk l i).kind==κ with
 | true=>exact hy (by simpa using h)
 | false=>exact hn (by simpa using h)
theorem kuf (a:Int):ints [a]=[[D.int IntKind.i64 a]]:=rfl
theorem kng (a:List Int) (b:Int):ints (a++[b])=ints a++[[D.int IntKind.i64 b]]:=by unfold ints;rw [List.map_append];rfl
theorem knh (hl:Few l) (t:Tok) (z':List (List D)) (z3 x2 x3:Int) (s4:ByteArray) (x5 x6:Int):∀ (d i:Nat),i < l.length->l.length - i<=d->After l i->∀ acc:List E,acc.length<=i ->
 Sim l eV (fun m k n=>koQ m (Ak k) n z' z3 (toks l) (Int.ofNat i) x2 x3 s4 x5 x6 5 0 (bx []) (E.rows acc) t.line t.col) (run (pw l) l (.call (.rest wRp) fun r=>.ret (E.mk 5 0 [] [] [] (acc++r) t.line t.col)) i)
 | 0,i,hi,h,_,_,_=>by omega
 | d+1,i,hi,h,H,acc,ha=>by
  have g:=hl.good
  rw [kbF g _ _ i hi]
  refine Sim.step ?_
  simp only [kto]
  refine kaY hl.len hi wCm (fun h=>Sim.yes rfl ?_) (fun h=>Sim.no rfl ?_)
  · have h1:=nx g hi h
    simp only [kts]
    refine Eq.subst (motive:=fun r=>Sim l eV _ r) (kai _ _ _).symm ?_
    refine S_E (H _ (by omega) h1).expr (fun _ _ _ _ _ _=>rfl) fun a j hj=>?_
    have hf:=kbf g h1 hj
    refine Sim.yes (by rw [E.rows_len];exact roomy _ _ (by have:=hl.len;omega) (by omega)) ?_
    rw [<- E.rows_app]
    have:=knh hl t z' z3 x2 x3 s4 x5 x6 d j hf.2 (by omega) (fun j' h1 h2=>H j' (by omega) h2) (acc++[a]) (by rw [List.length_append,List.length_singleton];omega)
    simp only [List.append_assoc,List.singleton_append] at this
    exact this
  · simp only [ktt]
    refine kaK hl.len hi wRp (fun _ _ _ _ _ _=>rfl) fun h2=>?_
    exact kdG (by rw [List.append_nil]) rfl rfl fun _ _ _=>rfl
theorem kni (hl:Few l) (t:Tok) (z':List (List D)) (z3 x2 x3:Int) (s4:ByteArray) (x5 x6:Int):∀ (d i:Nat),i < l.length->l.length - i<=d->After l i->∀ (os:List Int) (acc:List E),acc.length<=i->os.length<=i ->
 Sim l eV (fun m k n=>kfJ m (Ak k) n z' z3 (toks l) (Int.ofNat i) x2 x3 s4 x5 x6 13 0 (bx []) (ints os) (E.rows acc) t.line t.col) (run (pw l) l (.call .pick fun p=>.ret (E.mk 13 0 [] [] (os++p.1) (acc++p.2) t.line t.col)) i)
 | 0,i,hi,h,_,_,_,_,_=>by omega
 | d+1,i,hi,h,H,os,acc,ha,ho=>by
  have g:=hl.good
  rw [kbF g _ _ i hi]
  refine Sim.step ?_
  simp only [klh]
  refine kcP hl.len hi 3 (fun _ _ _ _ _ _=>rfl) fun h1=>?_
  have h2:=nxk g hi h1 (by decide)
  refine Sim.yes (by rw [kfj];exact roomy _ _ (by have:=hl.len;omega) (by omega)) ?_
  refine kaK hl.len h2 wCl (fun _ _ _ _ _ _=>rfl) fun h3=>?_
  have h4:=nx g h2 h3
  refine Eq.subst (motive:=fun r=>Sim l eV _ r) (kai _ _ _).symm ?_
  refine S_E (H _ (by omega) h4).expr (fun _ _ _ _ _ _=>rfl) fun a j hj=>?_
  have hf:=kbf g h4 hj
  refine Sim.yes (by rw [E.rows_len];exact roomy _ _ (by have:=hl.len;omega) (by omega)) ?_
  refine kaY hl.len hf.2 wCm (fun h=>Sim.no rfl ?_) (fun h=>Sim.yes rfl ?_)
  · have h5:=nx g hf.2 h
    rw [<- E.rows_app,<- kng]
    have:=kni hl t z' z3 x2 x3 s4 x5 x6 d (j+1) h5 (by omega) (fun j' h1 h2=>H j' (by omega) h2) (os++[(tk l i).n]) (acc++[a]) (by rw [List.length_append,List.length_singleton];omega) (by rw [List.length_append,List.length_singleton];omega)
    simp only [List.append_assoc,List.singleton_append] at this
    exact this
  · refine kaK hl.len hf.2 wRc (fun _ _ _ _ _ _=>rfl) fun h2=>?_
    exact kdG (E.rows_app acc a).symm rfl (kng os _).symm fun _ _ _=>rfl
theorem pick_ok (hl:Few l) (t:Tok) (z':List (List D)) (z3 x2 x3:Int) (s4:ByteArray) (x5 x6:Int) (i:Nat) (hi:i < l.length) (H:After l i) :
 Sim l eV (fun m k n=>ktd m (Ak k) n z' z3 (toks l) (Int.ofNat i) x2 x3 s4 x5 x6 13 0 (bx []) t.line t.col) (run (pw l) l (.call .pick fun p=>.ret (E.mk 13 0 [] [] p.1 p.2 t.line t.col)) i):=by
 have g:=hl.good
 rw [kbF g _ _ i hi]
 refine Sim.step ?_
 simp only [ktl]
 refine kcP hl.len hi 3 (fun _ _ _ _ _ _=>rfl) fun h1=>?_
 have h2:=nxk g hi h1 (by decide)
 refine kaK hl.len h2 wCl (fun _ _ _ _ _ _=>rfl) fun h3=>?_
 have h4:=nx g h2 h3
 refine Eq.subst (motive:=fun r=>Sim l eV _ r) (kai _ _ _).symm ?_
 refine S_E (H _ (by omega) h4).expr (fun _ _ _ _ _ _=>rfl) fun a j hj=>?_
 have hf:=kbf g h4 hj
 refine kaY hl.len hf.2 wCm (fun h=>Sim.no rfl ?_) (fun h=>Sim.yes rfl ?_)
 · have h5:=nx g hf.2 h
   rw [<- E.rows_one,<- kuf]
   exact kni hl t z' z3 x2 x3 s4 x5 x6 _ (j+1) h5 (Nat.le_refl _) (fun j' h1 h2=>H j' (by omega) h2) [(tk l i).n] [a] (by simp only [List.length_cons,List.length_nil];omega) (by simp only [List.length_cons,List.length_nil];omega)
 · refine kaK hl.len hf.2 wRc (fun _ _ _ _ _ _=>rfl) fun h2=>?_
   exact kdG (E.rows_one a).symm rfl rfl fun _ _ _=>rfl
theorem kAl (hl:Few l) (hn:Nums l) (i:Nat) (hi:i < l.length) (H:After l i) :
 Sim l eV (fun _ k _=>Ak k false 125 [V.one (X.ptr 0 0)] (rds l i)) (pw l .atom i):=by
 have g:=hl.good
 rw [kaC g _ i hi]
 refine fun hr=>kCJ _ _ ((?_:Sim l eV (fun _ k n=>e125 (Ak k) n (toks l) (Int.ofNat i)) (run (pw l) l (body .atom) i)) hr)
 clear hr
 simp only [kCA]
 refine klH hi ?_
 refine kDq 3 (fun h=>?_) (fun h=>?_)
 · have h1:=nxk g hi h (by decide)
   refine kbt 1 (tk l i) ?_
   rw [up hl.len hi]
   exact kdG (P:=pw l) E.rows_nil.symm rfl rfl fun _ _ _=>rfl
 refine kDq 1 (fun h=>?_) (fun h=>?_)
 · have h1:=nxk g hi h (by decide)
   refine kbt 3 (tk l i) ?_
   rw [up hl.len hi]
   refine kaY hl.len h1 wLp (fun h=>Sim.yes rfl ?_) (fun h=>Sim.no rfl ?_)
   · have h2:=nx g h1 h
     refine Eq.subst (motive:=fun r=>Sim l eV _ r) (kai _ _ _).symm ?_
     refine S_L ((H _ (by omega) h2).list wRp) (fun _ _ _ _ _ _=>rfl) fun a j hj=>?_
     simp only [ktj]
     exact kdG (P:=pw l) rfl rfl rfl fun _ _ _=>rfl
   · simp only [klg]
     exact kdG (P:=pw l) E.rows_nil.symm rfl rfl fun _ _ _=>rfl
 refine kaY hl.len hi kgC (fun h=>Sim.yes rfl ?_) (fun h=>Sim.no rfl ?_)
 · refine kbt 2 (tk l i) ?_
   exact kdG (P:=pw l) E.rows_nil.symm rfl rfl fun _ _ _=>rfl
 refine kaY hl.len hi kdx (fun h=>Sim.yes rfl ?_) (fun h=>Sim.no rfl ?_)
 · refine kbt 2 (tk l i) ?_
   exact kdG (P:=pw l) E.rows_nil.symm rfl rfl fun _ _ _=>rfl
 refine kaY hl.len hi wLp (fun h=>Sim.yes rfl ?_) (fun h=>Sim.no rfl ?_)
 · have h1:=nx g hi h
   refine Eq.subst (motive:=fun r=>Sim l eV _ r) (kai _ _ _).symm ?_
   refine S_E (H _ (by omega) h1).expr (fun _ _ _ _ _ _=>rfl) fun a j hj=>?_
   have hf:=kbf g h1 hj
   refine kaY hl.len hf.2 wRp (fun h=>Sim.yes rfl ?_) (fun h=>Sim.no rfl ?_)
   · exact Sim.ret fun _ _ _=>rfl
   simp only [ktk]
   refine kbt 5 (tk l i) ?_
   refine kaK hl.len hf.2 wCm (fun _ _ _ _ _ _=>rfl) fun h=>?_
   have h2:=nx g hf.2 h
   refine Eq.subst (motive:=fun r=>Sim l eV _ r) (kai _ _ _).symm ?_
   refine S_E (H _ (by omega) h2).expr (fun _ _ _ _ _ _=>rfl) fun b j2 hj2=>?_
   have hf2:=kbf g h2 hj2
   rw [<- E.rows_two]
   exact Sim.diag (knh hl (tk l i) _ _ _ _ _ _ _ _ j2 hf2.2 (Nat.le_refl _) (fun j' h1 h2=>H j' (by omega) h2) [a,b] (by simp only [List.length_cons,List.length_nil];omega))
 refine kaY hl.len hi wLb (fun h=>Sim.yes rfl ?_) (fun h=>Sim.no rfl ?_)
 · have h1:=nx g hi h
   refine kbt 6 (tk l i) ?_
   refine Eq.subst (motive:=fun r=>Sim l eV _ r) (kai _ _ _).symm ?_
   refine S_L ((H _ (by omega) h1).list wRb) (fun _ _ _ _ _ _=>rfl) fun a j hj=>?_
   exact kdG (P:=pw l) rfl rfl rfl fun _ _ _=>rfl
 refine kaY hl.len hi kj8 (fun h=>Sim.yes rfl ?_) (fun h=>Sim.no rfl ?_)
 · have h1:=nx g hi h
   refine kbt 13 (tk l i) ?_
   refine kaK hl.len h1 wLc (fun _ _ _ _ _ _=>rfl) fun h=>?_
   have h2:=nx g h1 h
   exact Sim.diag (pick_ok hl (tk l i) _ _ _ _ _ _ _ _ h2 (fun j' h1 h2=>H j' (by omega) h2))
 refine kaY hl.len hi kj9 (fun h=>Sim.yes rfl ?_) (fun h=>Sim.no rfl ?_)
 · have h1:=nx g hi h
   refine kbt 14 (tk l i) ?_
   refine kaK hl.len h1 wLp (fun _ _ _ _ _ _=>rfl) fun h=>?_
   have h2:=nx g h1 h
   refine Eq.subst (motive:=fun r=>Sim l eV _ r) (kai _ _ _).symm ?_
   refine S_O (share_ok hl _ h2) (fun _ _ _ _ _ _=>rfl) fun a j hj=>?_
   have hf:=kbf g h2 hj
   refine kaK hl.len hf.2 wRp (fun _ _ _ _ _ _=>rfl) fun h=>?_
   exact kdG (P:=pw l) E.rows_nil.symm rfl rfl fun _ _ _=>rfl
 refine kaY hl.len hi kgn (fun h=>Sim.yes rfl ?_) (fun h=>Sim.no rfl ?_)
 · have h1:=nx g hi h
   refine kbt 15 (tk l i) ?_
   refine kaK hl.len h1 wLp (fun _ _ _ _ _ _=>rfl) fun h=>?_
   have h2:=nx g h1 h
   refine Eq.subst (motive:=fun r=>Sim l eV _ r) (kai _ _ _).symm ?_
   refine S_I (bound_ok hl hn _ h2) (fun _ _ _ _ _ _=>rfl) fun a j hj=>?_
   have hf:=kbf g h2 hj
   refine kaK hl.len hf.2 wCm (fun _ _ _ _ _ _=>rfl) fun h=>?_
   have h3:=nx g hf.2 h
   refine Eq.subst (motive:=fun r=>Sim l eV _ r) (kai _ _ _).symm ?_
   refine S_I (bound_ok hl hn _ h3) (fun _ _ _ _ _ _=>rfl) fun b j2 hj2=>?_
   have hf2:=kbf g h3 hj2
   refine kaK hl.len hf2.2 wRp (fun _ _ _ _ _ _=>rfl) fun h=>?_
   exact kdG (P:=pw l) E.rows_nil.symm rfl rfl fun _ _ _=>rfl
 simp only [ktm]
 exact kDp hi fun _ _ _ _ _ _=>rfl
theorem kx7 (hl:Few l) (hn:Nums l):∀ (d i:Nat),i < l.length->l.length - i<=d->AllAt l i
 | 0,i,hi,h=>by omega
 | d+1,i,hi,h=>by
  have H:After l i:=fun j h1 h2=>kx7 hl hn d j h2 (by omega)
  have ha:=kAl hl hn i hi H
  have hu:=kue hl i hi H ha
  have h6:=kqQ hl i hi hu
  have h5:=kea hl 5 (by decide) i hi H h6
  have h4:=kea hl 4 (by decide) i hi H h5
  have h3:=kea hl 3 (by decide) i hi H h4
  have h2:=kea hl 2 (by decide) i hi H h3
  have h1:=kea hl 1 (by decide) i hi H h2
  have h0:=kea hl 0 (by decide) i hi H h1
  have he:=kAk hl i hi H h0
  refine ⟨he,fun n hn=>?_,hu,ha,fun e=>list_ok hl e i hi H he fun a j hj=>kCP (q:=.expr) trivial hj⟩
  match n,hn with
  | 0,_=>exact h0
  | 1,_=>exact h1
  | 2,_=>exact h2
  | 3,_=>exact h3
  | 4,_=>exact h4
  | 5,_=>exact h5
  | 6,_=>exact h6
theorem keb (hl:Few l) (hn:Nums l) (i:Nat) (hi:i < l.length):Sim l eV (fun _ k _=>Ak k false 44 [V.one (X.ptr 0 0)] (rds l i)) (pw l .expr i):=(kx7 hl hn _ i hi (Nat.le_refl _)).expr
end
end Go.Proofs.YtaphnbaiamnfpaaGreatDoor.Ps
namespace Go.Proofs.YtaphnbaiamnfpaaGreatDoor.Ps
set_option linter.unusedVariables false
set_option linter.unusedSimpArgs false
open Go Go.RowKit Px
open Lx (Tok)
open Pm (want kind)
def fnV (f:Fnc):V:=V.agg [X.d (D.str (bx f.name)),X.d (D.list 5 (Fld.rows f.params)),X.d (D.int IntKind.i64 f.res.k),X.d (D.list 2 (T.rows f.res.l)),X.d (D.int IntKind.i64 f.body.k),X.d (D.int IntKind.i64 f.body.n),X.d (D.str (bx f.body.name)),X.d (D.list 1 (strs f.body.names)),X.d (D.list 1 (ints f.body.odds)),X.d (D.list 8 (E.rows f.body.kids)),X.d (D.int IntKind.i64 f.body.line),X.d (D.int IntKind.i64 f.body.col),X.d (D.int IntKind.i64 f.line),X.d (D.int IntKind.i64 f.col)]
section
variable {l:List Tok}
theorem S_Fn {α:Type} {enc:α->V} {f:FuncId} {args:List V} {rows:List (List Lf × List X)} {r:Rs Fnc} {g:Fnc->Nat->Rs α} {K:Nat->Nat->Nat->ByteArray->List (List D)->Int->List (List D)->Int->Int->ByteArray->List (List D)->List (List D)->List (List D)->Int->Int->Int->Int->List (List D)->Int->Option Out} {Q:Nat->Nat->Nat->D->List (List D)->Int->Option Out}
 (h:Sim l fnV (fun _ k _=>Ak k false f args rows) r) (hp:kib Q)
 (hy:∀ a j,r=.ok a j->Sim l enc (fun m k n=>K m k n (bx a.name) (Fld.rows a.params) a.res.k (T.rows a.res.l) a.body.k a.body.n (bx a.body.name) (strs a.body.names) (ints a.body.odds) (E.rows a.body.kids) a.body.line a.body.col a.line a.col (toks l) (Int.ofNat j)) (g a j)) :
 Sim l enc (fun m k n=>kao (Ak k false f args rows) (K m k n) (Q m k n)) (kdE r g):=by
 cases r with
 | ok a j=>exact fun hr=>kch (h (fun q=>by cases q)) (hy a j rfl hr)
 | no j=>exact fun hr=>kci (h (fun q=>by cases q)) (Ev.of fun m k n=>hp m k n _ _ _)
 | out=>exact fun hr=>absurd rfl hr
theorem knj (hl:Few l) (i:Nat) (hi:i < l.length):Sim l tV (fun _ k _=>Ak k false 107 [V.one (X.ptr 0 0)] (rds l i)) (pw l .typ i):=(kx6 hl _ i hi (Nat.lt_succ_self _)).1
theorem field_ok (hl:Few l) (i:Nat) (hi:i < l.length):Sim l fV (fun _ k _=>Ak k false 77 [V.one (X.ptr 0 0)] (rds l i)) (pw l .field i):=by
 have g:=hl.good
 rw [kaC g _ i hi]
 refine fun hr=>kHL _ _ ((?_:Sim l fV (fun _ k n=>e77 (Ak k) n (toks l) (Int.ofNat i)) (run (pw l) l (body .field) i)) hr)
 clear hr
 simp only [kHu]
 refine kcP hl.len hi 1 (fun _ _ _ _ _ _=>rfl) fun h=>?_
 have h1:=nxk g hi h (by decide)
 refine kaK hl.len h1 wCl (fun _ _ _ _ _ _=>rfl) fun h=>?_
 have h2:=nx g h1 h
 refine Eq.subst (motive:=fun r=>Sim l fV _ r) (kai _ _ _).symm ?_
 exact S_T (knj hl _ h2) (fun _ _ _ _ _ _=>rfl) fun a j hj=>Sim.ret fun _ _ _=>rfl
theorem kAm {α:Type} {enc:α->V} (hl:Few l) {i:Nat} (hi:i < l.length) (s:List UInt8) {K:Nat->Nat->Nat->Bool->List (List D)->Int->Option Out} {Q:Nat->Nat->Nat->D->List (List D)->Int->Option Out} {r:Rs α}
 (h:Sim l enc (fun m k n=>K m k n (isT s (tk l i)) (toks l) (Int.ofNat i)) r) :
 Sim l enc (fun m k n=>kar (Ak k false 106 [V.one (X.ptr 0 0),V.one (X.d (D.str (bx s)))] (rds l i)) (K m k n) (Q m k n)) r:=fun hr=>keq (C_is hi s) (h hr)
def heads (t:Tok) (ps:List Fld):Pm Fnc:=want wRp (kbO t ps)
theorem kqR (hl:Few l) (hn:Nums l) (i:Nat) (hi:i < l.length) (t:Tok) (ps:List Fld) (z':List (List D)) (z3:Int) (s2:ByteArray) (x3 x4 x5:Int) (s6:ByteArray) (x7 x8 x9 x10 x13 x14 x15:Int) (s16:ByteArray) (x17 x18:Int) :
 Sim l fnV (fun _ k n=>kg3 (Ak k) n z' z3 (toks l) (Int.ofNat i) s2 x3 x4 x5 s6 x7 x8 x9 x10 (bx t.text) (Fld.rows ps) x13 x14 x15 s16 x17 x18 t.line t.col) (run (pw l) l (heads t ps) i):=by
 have g:=hl.good
 simp only [kh7]
 unfold heads kbO
 refine kaK hl.len hi wRp (fun _ _ _ _ _ _=>rfl) fun h=>?_
 have h1:=nx g hi h
 refine kaK hl.len h1 wCl (fun _ _ _ _ _ _=>rfl) fun h=>?_
 have h2:=nx g h1 h
 refine Eq.subst (motive:=fun r=>Sim l fnV _ r) (kai _ _ _).symm ?_
 refine S_T (knj hl _ h2) (fun _ _ _ _ _ _=>rfl) fun a j hj=>?_
 have hf:=kbf g h2 hj
 refine kaK hl.len hf.2 wEq (fun _ _ _ _ _ _=>rfl) fun h=>?_
 have h3:=nx g hf.2 h
 refine Eq.subst (motive:=fun r=>Sim l fnV _ r) (kai _ _ _).symm ?_
 refine S_E (keb hl hn _ h3) (fun _ _ _ _ _ _=>rfl) fun b j2 hj2=>?_
 have hf2:=kbf g h3 hj2
 refine kaK hl.len hf2.2 wSc (fun _ _ _ _ _ _=>rfl) fun h=>?_
 exact Sim.ret (P:=pw l) fun _ _ _=>rfl
theorem kug (Γ:Bool->SemL) (n1:Nat) (z2:List (List D)) (z3:Int) (r0:List (List D)) (x1:Int) (s2:ByteArray) (x3 x4 x5:Int) (s6:ByteArray) (x7 x8 x9 x10:Int) (s11:ByteArray) (x12 x13 x14:Int) (s15:ByteArray) (x16 x17 x18 x19:Int) :
 kCu Γ n1 z2 z3 r0 x1 s2 x3 x4 x5 s6 x7 x8 x9 x10 s11 x12 x13 x14 s15 x16 x17 x18 x19=kg3 Γ n1 z2 z3 r0 x1 s2 x3 x4 x5 s6 x7 x8 x9 x10 s11 [] x12 x13 x14 s15 x16 x17 x18 x19:=by
 rw [kw8,kh7]
theorem kku (hl:Few l) (hn:Nums l) (t:Tok) (z':List (List D)) (z3:Int) (s2:ByteArray) (x3 x4 x5:Int) (s6:ByteArray) (x7 x8 x9 x10 x13 x14 x15:Int) (s16:ByteArray) (x17 x18:Int):∀ (d i:Nat),i < l.length->l.length - i<=d->∀ acc:List Fld,acc.length<=i ->
 Sim l fnV (fun m k n=>kwv m (Ak k) n z' z3 (toks l) (Int.ofNat i) s2 x3 x4 x5 s6 x7 x8 x9 x10 (bx t.text) (Fld.rows acc) x13 x14 x15 s16 x17 x18 t.line t.col) (run (pw l) l (.call .fields fun r=>kbO t (acc++r)) i)
 | 0,i,hi,h,_,_=>by omega
 | d+1,i,hi,h,acc,ha=>by
  have g:=hl.good
  rw [kbF g _ _ i hi]
  refine Sim.step ?_
  simp only [kw7]
  refine kaY hl.len hi wCm (fun h=>Sim.yes rfl ?_) (fun h=>Sim.no rfl ?_)
  · have h1:=nx g hi h
    simp only [kxa]
    refine Eq.subst (motive:=fun r=>Sim l fnV _ r) (kai _ _ _).symm ?_
    refine S_F (field_ok hl _ h1) (fun _ _ _ _ _ _=>rfl) fun a j hj=>?_
    have hf:=kbf g h1 hj
    refine Sim.yes (by rw [Fld.rows_len];exact roomy _ _ (by have:=hl.len;omega) (by omega)) ?_
    rw [<- Fld.rows_app]
    have:=kku hl hn t z' z3 s2 x3 x4 x5 s6 x7 x8 x9 x10 x13 x14 x15 s16 x17 x18 d j hf.2 (by omega) (acc++[a]) (by rw [List.length_append,List.length_singleton];omega)
    simp only [List.append_assoc,List.singleton_append] at this
    exact this
  · have:=kqR hl hn i hi t acc z' z3 s2 x3 x4 x5 s6 x7 x8 x9 x10 x13 x14 x15 s16 x17 x18
    unfold heads at this
    show Sim l fnV _ (run (pw l) l (want wRp (kbO t (acc++[]))) i)
    rw [List.append_nil]
    exact this
theorem fun_ok (hl:Few l) (hn:Nums l) (i:Nat) (hi:i < l.length):Sim l fnV (fun _ k _=>Ak k false 79 [V.one (X.ptr 0 0)] (rds l i)) (pw l .fun_ i):=by
 have g:=hl.good
 rw [kaC g _ i hi]
 refine fun hr=>kHO _ _ ((?_:Sim l fnV (fun _ k n=>e79 (Ak k) n (toks l) (Int.ofNat i)) (run (pw l) l (body .fun_) i)) hr)
 clear hr
 simp only [kHx]
 refine kcP hl.len hi 1 (fun _ _ _ _ _ _=>rfl) fun h=>?_
 have h1:=nxk g hi h (by decide)
 refine kaK hl.len h1 wLp (fun _ _ _ _ _ _=>rfl) fun h=>?_
 have h2:=nx g h1 h
 refine kAm hl h2 wRp ?_
 cases h:isT wRp (tk l (i+1+1)) with
 | true =>
  refine Sim.no rfl ?_
  have e1:run (pw l) l (Pm.take wRp (kbO (tk l i) []) (.call .field fun a=>.call .fields fun r=>kbO (tk l i) (a :: r))) (i+1+1)=run (pw l) l (heads (tk l i) []) (i+1+1):=by
   unfold heads
   rw [run,run,h]
   rfl
  refine Eq.subst (motive:=fun r=>Sim l fnV _ r) e1.symm ?_
  simp only [kug]
  exact kqR hl hn _ h2 (tk l i) [] _ _ _ _ _ _ _ _ _ _ _ _ _ _ _ _ _
 | false =>
  refine Sim.yes rfl ?_
  have e1:run (pw l) l (Pm.take wRp (kbO (tk l i) []) (.call .field fun a=>.call .fields fun r=>kbO (tk l i) (a :: r))) (i+1+1)=run (pw l) l (.call .field fun a=>.call .fields fun r=>kbO (tk l i) (a :: r)) (i+1+1):=by
   rw [run,h]
   rfl
  refine Eq.subst (motive:=fun r=>Sim l fnV _ r) e1.symm ?_
  rw [kai]
  refine S_F (field_ok hl _ h2) (fun _ _ _ _ _ _=>rfl) fun a j hj=>?_
  have hf:=kbf g h2 hj
  rw [<- Fld.rows_one]
  exact Sim.diag (kku hl hn (tk l i) _ _ _ _ _ _ _ _ _ _ _ _ _ _ _ _ _ _ j hf.2 (Nat.le_refl _) [a] (by simp only [List.length_cons,List.length_nil];omega))
abbrev kjj (ins:List Fld) (fs:List Fnc):Pm Pg:=.call .expr fun q=>.ret ⟨ins,fs,q⟩
theorem knk (hl:Few l) (hn:Nums l) (ins:List Fld) (z':List (List D)) (z3 x2 x3:Int) (s4:ByteArray) (x5 x6 x8 x9:Int) (s10:ByteArray) (x11 x12:Int):∀ (d i:Nat),i < l.length->l.length - i<=d->∀ fs:List Fnc,fs.length<=i ->
 Sim l pV (fun m k n=>kg2 m (Ak k) n z' z3 (toks l) (Int.ofNat i) x2 x3 s4 x5 x6 (Fld.rows ins) (Fnc.rows fs) x8 x9 s10 x11 x12) (run (pw l) l (.call .funs fun b=>kjj ins (fs++b)) i)
 | 0,i,hi,h,_,_=>by omega
 | d+1,i,hi,h,fs,ha=>by
  have g:=hl.good
  rw [kbF g _ _ i hi]
  refine Sim.step ?_
  simp only [kmO]
  refine kaY hl.len hi wFun (fun h=>Sim.yes rfl ?_) (fun h=>Sim.no rfl ?_)
  · have h1:=nx g hi h
    simp only [kmP]
    refine Eq.subst (motive:=fun r=>Sim l pV _ r) (kai _ _ _).symm ?_
    refine S_Fn (fun_ok hl hn _ h1) (fun _ _ _ _ _ _=>rfl) fun a j hj=>?_
    have hf:=kbf g h1 hj
    refine Sim.yes (by rw [Fnc.rows_len];exact roomy _ _ (by have:=hl.len;omega) (by omega)) ?_
    rw [<- Fnc.rows_app]
    have:=knk hl hn ins z' z3 x2 x3 s4 x5 x6 x8 x9 s10 x11 x12 d j hf.2 (by omega) (fs++[a]) (by rw [List.length_append,List.length_singleton];omega)
    simp only [List.append_assoc,List.singleton_append] at this
    exact this
  · simp only [kmQ]
    show Sim l pV _ (run (pw l) l (kjj ins (fs++[])) i)
    rw [List.append_nil]
    refine Eq.subst (motive:=fun r=>Sim l pV _ r) (kai _ _ _).symm ?_
    exact S_E (keb hl hn _ hi) (fun _ _ _ _ _ _=>rfl) fun b j2 hj2=>Sim.ret fun _ _ _=>rfl
theorem knl (hl:Few l) (hn:Nums l) (ins:List Fld) (z':List (List D)) (z3 x2 x3:Int) (s4:ByteArray) (x5 x6 x8 x9:Int) (s10:ByteArray) (x11 x12:Int):∀ (d i:Nat),i < l.length->l.length - i<=d->∀ fs:List Fnc,fs.length<=i ->
 Sim l pV (fun m k n=>kg1 m (Ak k) n z' z3 (toks l) (Int.ofNat i) x2 x3 s4 x5 x6 (Fnc.rows fs) x8 x9 s10 x11 x12) (run (pw l) l (.call .funs fun b=>kjj [] (fs++b)) i)
 | 0,i,hi,h,_,_=>by omega
 | d+1,i,hi,h,fs,ha=>by
  have g:=hl.good
  rw [kbF g _ _ i hi]
  refine Sim.step ?_
  simp only [kmJ]
  refine kaY hl.len hi wFun (fun h=>Sim.yes rfl ?_) (fun h=>Sim.no rfl ?_)
  · have h1:=nx g hi h
    simp only [kmM]
    refine Eq.subst (motive:=fun r=>Sim l pV _ r) (kai _ _ _).symm ?_
    refine S_Fn (fun_ok hl hn _ h1) (fun _ _ _ _ _ _=>rfl) fun a j hj=>?_
    have hf:=kbf g h1 hj
    refine Sim.yes (by rw [Fnc.rows_len];exact roomy _ _ (by have:=hl.len;omega) (by omega)) ?_
    rw [<- Fnc.rows_app]
    have:=knl hl hn ins z' z3 x2 x3 s4 x5 x6 x8 x9 s10 x11 x12 d j hf.2 (by omega) (fs++[a]) (by rw [List.length_append,List.length_singleton];omega)
    simp only [List.append_assoc,List.singleton_append] at this
    exact this
  · simp only [kmN]
    show Sim l pV _ (run (pw l) l (kjj [] (fs++[])) i)
    rw [List.append_nil]
    refine Eq.subst (motive:=fun r=>Sim l pV _ r) (kai _ _ _).symm ?_
    exact S_E (keb hl hn _ hi) (fun _ _ _ _ _ _=>rfl) fun b j2 hj2=>Sim.ret fun _ _ _=>rfl
theorem kuh (hl:Few l) (hn:Nums l) (ins:List Fld) (z':List (List D)) (z3 x2 x3:Int) (s4:ByteArray) (x5 x6 x8 x9:Int) (s10:ByteArray) (x11 x12:Int) (i:Nat) (hi:i < l.length) :
 Sim l pV (fun m k n=>kj4 m (Ak k) n z' z3 (toks l) (Int.ofNat i) x2 x3 s4 x5 x6 (Fld.rows ins) x8 x9 s10 x11 x12) (run (pw l) l (.call .funs fun b=>kjj ins b) i):=by
 have g:=hl.good
 rw [kbF g _ _ i hi]
 refine Sim.step ?_
 simp only [kmI]
 refine kaY hl.len hi wFun (fun h=>Sim.yes rfl ?_) (fun h=>Sim.no rfl ?_)
 · have h1:=nx g hi h
   simp only [kmK]
   refine Eq.subst (motive:=fun r=>Sim l pV _ r) (kai _ _ _).symm ?_
   refine S_Fn (fun_ok hl hn _ h1) (fun _ _ _ _ _ _=>rfl) fun a j hj=>?_
   have hf:=kbf g h1 hj
   have e1:=(Fnc.rows_app [] a).symm
   rw [show Fnc.rows []=[] from rfl,List.nil_append,List.nil_append] at e1
   rw [e1]
   exact knk hl hn ins z' z3 x2 x3 s4 x5 x6 x8 x9 s10 x11 x12 _ j hf.2 (Nat.le_refl _) [a] (by simp only [List.length_cons,List.length_nil];omega)
 · simp only [kmL]
   refine Eq.subst (motive:=fun r=>Sim l pV _ r) (kai _ _ _).symm ?_
   exact S_E (keb hl hn _ hi) (fun _ _ _ _ _ _=>rfl) fun b j2 hj2=>Sim.ret fun _ _ _=>rfl
theorem kui (hl:Few l) (hn:Nums l) (ins:List Fld) (z':List (List D)) (z3 x2 x3:Int) (s4:ByteArray) (x5 x6 x8 x9:Int) (s10:ByteArray) (x11 x12:Int) (i:Nat) (hi:i < l.length) :
 Sim l pV (fun m k n=>kCr m (Ak k) n z' z3 (toks l) (Int.ofNat i) x2 x3 s4 x5 x6 x8 x9 s10 x11 x12) (run (pw l) l (.call .funs fun b=>kjj [] b) i):=by
 have g:=hl.good
 rw [kbF g _ _ i hi]
 refine Sim.step ?_
 simp only [kwL]
 refine kaY hl.len hi wFun (fun h=>Sim.yes rfl ?_) (fun h=>Sim.no rfl ?_)
 · have h1:=nx g hi h
   simp only [kwV]
   refine Eq.subst (motive:=fun r=>Sim l pV _ r) (kai _ _ _).symm ?_
   refine S_Fn (fun_ok hl hn _ h1) (fun _ _ _ _ _ _=>rfl) fun a j hj=>?_
   have hf:=kbf g h1 hj
   have e1:=(Fnc.rows_app [] a).symm
   rw [show Fnc.rows []=[] from rfl,List.nil_append,List.nil_append] at e1
   rw [e1]
   exact knl hl hn ins z' z3 x2 x3 s4 x5 x6 x8 x9 s10 x11 x12 _ j hf.2 (Nat.le_refl _) [a] (by simp only [List.length_cons,List.length_nil];omega)
 · simp only [kwW]
   refine Eq.subst (motive:=fun r=>Sim l pV _ r) (kai _ _ _).symm ?_
   exact S_E (keb hl hn _ hi) (fun _ _ _ _ _ _=>rfl) fun b j2 hj2=>Sim.ret fun _ _ _=>rfl
theorem inputs_ok (hl:Few l) (hn:Nums l) (z':List (List D)) (z3 x2 x3:Int) (s4:ByteArray) (x5 x6 x8 x9:Int) (s10:ByteArray) (x11 x12:Int):∀ (d i:Nat),i < l.length->l.length - i<=d->∀ ins:List Fld,ins.length<=i ->
 Sim l pV (fun m k n=>kg0 m (Ak k) n z' z3 (toks l) (Int.ofNat i) x2 x3 s4 x5 x6 (Fld.rows ins) x8 x9 s10 x11 x12) (run (pw l) l (.call .inputs fun a=>.call .funs fun b=>kjj (ins++a) b) i)
 | 0,i,hi,h,_,_=>by omega
 | d+1,i,hi,h,ins,ha=>by
  have g:=hl.good
  rw [kbF g _ _ i hi]
  refine Sim.step ?_
  simp only [kmF]
  refine kaY hl.len hi kdy (fun h=>Sim.yes rfl ?_) (fun h=>Sim.no rfl ?_)
  · have h1:=nx g hi h
    simp only [kmG]
    refine Eq.subst (motive:=fun r=>Sim l pV _ r) (kai _ _ _).symm ?_
    refine S_F (field_ok hl _ h1) (fun _ _ _ _ _ _=>rfl) fun a j hj=>?_
    have hf:=kbf g h1 hj
    refine Sim.yes (by rw [Fld.rows_len];exact roomy _ _ (by have:=hl.len;omega) (by omega)) ?_
    refine kaK hl.len hf.2 wSc (fun _ _ _ _ _ _=>rfl) fun h=>?_
    have h2:=nx g hf.2 h
    rw [<- Fld.rows_app]
    have:=inputs_ok hl hn z' z3 x2 x3 s4 x5 x6 x8 x9 s10 x11 x12 d (j+1) h2 (by omega) (ins++[a]) (by rw [List.length_append,List.length_singleton];omega)
    simp only [List.append_assoc,List.singleton_append] at this
    exact this
  · simp only [kmH]
    show Sim l pV _ (run (pw l) l (.call .funs fun b=>kjj (ins++[]) b) i)
    rw [List.append_nil]
    exact Sim.diag (kuh hl hn ins z' z3 x2 x3 s4 x5 x6 x8 x9 s10 x11 x12 i hi)
theorem program_ok (hl:Few l) (hn:Nums l) (i:Nat) (hi:i < l.length):Sim l pV (fun _ k _=>Ak k false 32 [V.one (X.ptr 0 0)] (rds l i)) (pw l .program i):=by
 have g:=hl.good
 rw [kaC g _ i hi]
 refine fun hr=>kHF _ _ ((?_:Sim l pV (fun _ k n=>e32 (Ak k) n (toks l) (Int.ofNat i)) (run (pw l) l (body .program) i)) hr)
 clear hr
 simp only [kHo]
 show Sim l pV _ (run (pw l) l (.call .inputs fun a=>.call .funs fun b=>kjj a b) i)
 rw [kbF g _ _ i hi]
 refine Sim.diag (F:=fun m k n=>kCq m (Ak k) n (toks l) (Int.ofNat i) (toks l) (Int.ofNat i) 0 0 (ByteArray.mk #[]) 0 0 0 0 (ByteArray.mk #[]) 0 0) (Sim.step ?_)
 simp only [kwD]
 refine kaY hl.len hi kdy (fun h=>Sim.yes rfl ?_) (fun h=>Sim.no rfl ?_)
 · have h1:=nx g hi h
   simp only [kwI]
   refine Eq.subst (motive:=fun r=>Sim l pV _ r) (kai _ _ _).symm ?_
   refine S_F (field_ok hl _ h1) (fun _ _ _ _ _ _=>rfl) fun a j hj=>?_
   have hf:=kbf g h1 hj
   refine kaK hl.len hf.2 wSc (fun _ _ _ _ _ _=>rfl) fun h=>?_
   have h2:=nx g hf.2 h
   rw [<- Fld.rows_one]
   exact inputs_ok hl hn _ _ _ _ _ _ _ _ _ _ _ _ _ (j+1) h2 (Nat.le_refl _) [a] (by simp only [List.length_cons,List.length_nil];omega)
 · simp only [kwJ]
   exact Sim.diag (kui hl hn [] _ _ _ _ _ _ _ _ _ _ _ _ i hi)
end
end Go.Proofs.YtaphnbaiamnfpaaGreatDoor.Ps
namespace Go.Proofs.YtaphnbaiamnfpaaGreatDoor.Ps
set_option linter.unusedVariables false
set_option linter.unusedSimpArgs false
open Go Go.RowKit Px
open Lx (Tok tok scan sm dg nm sgn val isWord ws nnl Flt)
theorem tok_kind {l:List UInt8} {k:Int} {w:List UInt8} {n:Int} (h:Lx.tok l=.ok k w n):k ≠ 5∧k ≠ 0∧0<=n∧n<=2147483647:=by
 unfold Lx.tok at h
 split at h
 · split at h
   · cases h
   · split at h<;>(cases h;decide)
 · split at h
   · split at h
     · cases h
     · rename_i h2
       cases h
       exact ⟨by decide,by decide,by omega,by omega⟩
   · split at h
     · cases h
     · cases h;decide
structure TokL (n:Nat) (l:List Tok):Prop where
 few:l.length<=n+1
 pos:0 < l.length
 last:∀ i,i < l.length->((tk l i).kind=5 ↔ i+1=l.length)
 nums:∀ t∈l,0<=t.n∧t.n<=2147483647
theorem kAn (t:Tok) (l:List Tok) (i:Nat):tk (t :: l) (i+1)=tk l i:=rfl
theorem TokL.cons {n:Nat} {l:List Tok} (h:TokL n l) {t:Tok} (h1:t.kind ≠ 5) (h2:0<=t.n∧t.n<=2147483647):TokL (n+1) (t :: l) where
 few:=by have:=h.few;rw [List.length_cons];omega
 pos:=by simp
 last:=fun i hi=>by
  cases i with
  | zero =>
   have:=h.pos
   rw [List.length_cons]
   show t.kind=5 ↔ _
   exact ⟨fun e=>absurd e h1,fun e=>by omega⟩
  | succ i =>
   rw [kAn]
   rw [List.length_cons] at hi ⊢
   rw [h.last i (by omega)]
   omega
 nums:=fun x hx=>by
  rcases List.mem_cons.1 hx with rfl | hx
  · exact h2
  · exact h.nums x hx
theorem TokL.mono {n m:Nat} {l:List Tok} (h:TokL n l) (hm:n<=m):TokL m l:=⟨by have:=h.few;omega,h.pos,h.last,h.nums⟩
theorem kc8:∀ (d:Nat) (l:List UInt8) (line col:Int) (r:List Tok),l.length < d->scan l line col=.ok r->TokL l.length r
 | 0,l,_,_,_,h,_=>by omega
 | d+1,[],line,col,r,hd,h=>by
  rw [scan] at h
  cases h
  exact ⟨by simp,by simp,fun i hi=>by
   have:i=0:=by simpa using hi
   subst this
   exact ⟨fun _=>rfl,fun _=>rfl⟩,fun t ht=>by
   rw [List.mem_singleton.1 ht]
   exact ⟨Int.le_refl 0,(by decide:(0:Int)<=2147483647)⟩⟩
 | d+1,c :: t,line,col,r,hd,h=>by
  rw [List.length_cons] at hd
  rw [scan] at h
  split at h
  · exact (kc8 d t _ _ r (by omega) h).mono (by simp)
  split at h
  · exact (kc8 d t _ _ r (by omega) h).mono (by simp)
  split at h
  · have:=(List.dropWhile_sublist (p:=nnl) (l:=t)).length_le
    exact (kc8 d _ _ _ r (by omega) h).mono (by rw [List.length_cons];omega)
  cases ht:Lx.tok (c :: t) with
  | bad e w=>rw [ht] at h;cases h
  | ok k w n =>
   rw [ht] at h
   simp only at h
   cases hs:scan (t.drop (w.length - 1)) line (col+w.length) with
   | error f=>rw [hs] at h;cases h
   | ok l' =>
    rw [hs] at h
    cases h
    have h1:=kc8 d _ _ _ l' (by rw [List.length_drop];omega) hs
    have hk:=tok_kind ht
    exact (h1.cons (t:=⟨k,w,n,line,col⟩) hk.1 hk.2.2).mono (by rw [List.length_drop,List.length_cons];omega)
theorem kcQ:∀ (d:Nat) (l:List UInt8) (line col:Int) (g:Flt),l.length < d->scan l line col=.error g->g.e ≠ 0
 | 0,l,_,_,_,h,_=>by omega
 | d+1,[],line,col,r,hd,h=>by rw [scan] at h;cases h
 | d+1,c :: t,line,col,g,hd,h=>by
  rw [List.length_cons] at hd
  rw [scan] at h
  split at h
  · exact kcQ d t _ _ g (by omega) h
  split at h
  · exact kcQ d t _ _ g (by omega) h
  split at h
  · have:=(List.dropWhile_sublist (p:=nnl) (l:=t)).length_le
    exact kcQ d _ _ _ g (by omega) h
  cases ht:Lx.tok (c :: t) with
  | bad e w =>
   rw [ht] at h
   cases h
   exact tok_bad ht
  | ok k w n =>
   rw [ht] at h
   simp only at h
   cases hs:scan (t.drop (w.length - 1)) line (col+w.length) with
   | error f =>
    rw [hs] at h
    cases h
    exact kcQ d _ _ _ g (by rw [List.length_drop];omega) hs
   | ok l'=>rw [hs] at h;cases h
theorem kec {l:List UInt8} {r:List Tok} (hl:l.length<=20000) (h:scan l 1 1=.ok r):Few r∧Nums r∧0 < r.length:=by
 have:=kc8 _ l 1 1 r (Nat.lt_succ_self _) h
 refine ⟨⟨⟨this.last⟩,by have:=this.few;omega⟩,fun i=>?_,this.pos⟩
 by_cases hi:i < r.length
 · have e:tk r i=r[i]:=by unfold tk;rw [List.getD_eq_getElem?_getD,List.getElem?_eq_getElem hi];rfl
   rw [e]
   exact this.nums _ (List.getElem_mem hi)
 · have e:tk r i=⟨0,[],0,0,0⟩:=by unfold tk;rw [List.getD_eq_getElem?_getD,List.getElem?_eq_none (by omega)];rfl
   rw [e]
   exact ⟨by decide,by decide⟩
abbrev EXl:List Lf:=[Lf.int IntKind.i64,Lf.int IntKind.i64,Lf.str,Lf.lst 1,Lf.lst 1,Lf.lst 8,Lf.int IntKind.i64,Lf.int IntKind.i64]
def noE:E:=.mk 0 0 [] [] [] [] 0 0
def tokF (t:Tok):Flt:=⟨11,t.text,t.line,t.col⟩
def khu (l:List Tok):Rs E:=run (pw l) l (.call .expr fun e=>.knd 5 (.ret e) .fail) 0
theorem C_lit (l:List Tok) (hl:Few l) (hn:Nums l) (i:Nat) (hi:i < l.length) (e0:E) :
 Cal 43 [V.one (X.ptr 0 0),V.one (X.ptr 1 0)] [(RD,rd l i),(EXl,eX e0)] (match pw l .expr i with
  | .ok a j=>⟨true,V.tup [],D.junk,[rd l j,eX a],0⟩
  | .no j=>⟨false,V.junk,flt (tk l j),[rd l j,eX e0],0⟩
  | .out=>⟨true,V.junk,D.junk,[],0⟩):=by
 have h:=keb hl hn i hi (keN hl.good _ i hi)
 refine kHI _ _ _ _ _ _ _ _ _ _ ?_
 simp only [kHr]
 cases hp:pw l .expr i with
 | ok a j =>
  rw [hp] at h
  exact kcF h (Ev.ret _)
 | no j =>
  rw [hp] at h
  exact kcG h (Ev.ret _)
 | out=>exact absurd hp (keN hl.good _ i hi)
def kjk (s:List UInt8) (f:List X) (e:E):Prop :=
 if 20000 < s.length then f=[iX 2,sX [],iX 0,iX 0]∧e=noE else
 match scan s 1 1 with
 | .error g=>f=fltX g∧e=noE
 | .ok l=>match khu l with
  | .ok a _=>f=fine∧e=a
  | .no j=>f=fltX (tokF (tk l j))
  | .out=>False
theorem kAo (s:List UInt8):∃ f e,kjk s f e∧Cal 30 [V.one (X.d (D.str (bx s))),V.one (X.fn 43 [X.ptr 0 0])] [(EXl,eX noE)] ⟨true,V.agg f,D.junk,[eX e],0⟩:=by
 have ht:=kjc s
 by_cases hs:20000 < s.length
 · rw [if_pos hs] at ht
   refine ⟨_,_,by unfold kjk;rw [if_pos hs];exact ⟨rfl,rfl⟩,?_⟩
   refine kd8 _ _ _ _ _ _ _ _ _ ?_
   simp only [kd6]
   exact kaG ht (Ev.yes rfl (Ev.ret _))
 rw [if_neg hs] at ht
 unfold kjk
 simp only [if_neg hs]
 cases hsc:scan s 1 1 with
 | error g =>
  rw [hsc] at ht
  refine ⟨_,_,⟨rfl,rfl⟩,?_⟩
  refine kd8 _ _ _ _ _ _ _ _ _ ?_
  simp only [kd6]
  have tl:kcw [] (.error g)=V.tup [V.one (X.d (D.list 5 [])),V.agg (fltX g)]:=rfl
  rw [tl] at ht
  exact kaG ht (Ev.yes (by simpa using kcQ _ s 1 1 g (Nat.lt_succ_self _) hsc) (Ev.ret _))
 | ok l =>
  rw [hsc] at ht
  have hfew:=kec (by omega) hsc
  have h0:=hfew.2.2
  have hlit:=C_lit l hfew.1 hfew.2.1 0 h0 noE
  have tl:kcw [] (.ok l)=V.tup [V.one (X.d (D.list 5 (toks l))),V.agg fine]:=rfl
  rw [tl] at ht
  simp only
  have e0:khu l=kdE (pw l .expr 0) fun e j=>run (pw l) l (.knd 5 (.ret e) .fail) j:=kai _ _ _
  rw [e0]
  cases hp:pw l .expr 0 with
  | out=>exact absurd hp (keN hfew.1.good _ 0 h0)
  | no j =>
   rw [hp] at hlit
   refine ⟨_,noE,rfl,?_⟩
   refine kd8 _ _ _ _ _ _ _ _ _ ?_
   simp only [kd6]
   refine kaG ht (Ev.no rfl ?_)
   simp only [ke5]
   exact ke3 hlit (Ev.of fun m k n=>rfl)
  | ok a j =>
   rw [hp] at hlit
   have hf:=kbf hfew.1.good h0 hp
   have ht2:=kc1 hf.2
   show ∃ f e,(match run (pw l) l (.knd 5 (.ret a) .fail) j with
    | .ok a _=>f=fine∧e=a
    | .no j=>f=fltX (tokF (tk l j))
    | .out=>False)∧_
   rw [run]
   cases hk:(tk l j).kind==5 with
   | true =>
    refine ⟨_,a,⟨rfl,rfl⟩,?_⟩
    refine kd8 _ _ _ _ _ _ _ _ _ ?_
    simp only [kd6]
    refine kaG ht (Ev.no rfl ?_)
    simp only [ke5,kmE]
    exact kcH hlit (kaF ht2 (Ev.no (by rw [bne,hk];rfl) (Ev.ret _)))
   | false =>
    refine ⟨_,a,rfl,?_⟩
    refine kd8 _ _ _ _ _ _ _ _ _ ?_
    simp only [kd6]
    refine kaG ht (Ev.no rfl ?_)
    simp only [ke5]
    exact kcH hlit (kaF ht2 (Ev.yes (by rw [bne,hk];rfl) (kgl (kkt hf.2) (Ev.of fun m k n=>rfl))))
end Go.Proofs.YtaphnbaiamnfpaaGreatDoor.Ps
namespace Go.Proofs.YtaphnbaiamnfpaaGreatDoor.Px
set_option linter.unusedVariables false
set_option linter.unusedSimpArgs false
mutual
def kfW:E->Nat->Option E
 | e,0=>some e
 | .mk _ _ _ _ _ ks _ _,n+1=>kfl ks n
def kfl:List E->Nat->Option E
 | [],_=>none
 | x :: r,n=>match kfW x n with
  | some y=>some y
  | none=>kfl r n
end
def big (a b:Int):Int:=if a < b then b else a
mutual
def kfX:T->Int
 | .mk _ l=>IntKind.wrap .i64 (kcR l 0+1)
def kcR:List T->Int->Int
 | [],a=>a
 | x :: r,a=>kcR r (big a (kfX x))
end
theorem kph (e:E):kfW e 0=some e:=by cases e;rw [kfW]
theorem kis (e:E) (n:Nat):kfW e (n+1)=kfl e.kids n:=by cases e;rw [kfW];rfl
theorem knm (t:T):kfX t=IntKind.wrap .i64 (kcR t.l 0+1):=by cases t;rw [kfX];rfl
def limE (e:E):Option (Int × Int):=(kfW e 40).map fun x=>(x.line,x.col)
def limT (t:T) (a b:Int):Option (Int × Int):=if 40 < kfX t then some (a,b) else none
def kfm:List Fld->Option (Int × Int)
 | []=>none
 | f :: r=>match limT f.typ f.line f.col with
  | some x=>some x
  | none=>kfm r
def kuj (f:Fnc):Option (Int × Int):=match kfm f.params with
 | some x=>some x
 | none=>match limT f.res f.line f.col with
  | some x=>some x
  | none=>limE f.body
def kdz:List Fnc->Option (Int × Int)
 | []=>none
 | f :: r=>match kuj f with
  | some x=>some x
  | none=>kdz r
def limP (p:Pg):Option (Int × Int):=match kfm p.inputs with
 | some x=>some x
 | none=>match kdz p.funs with
  | some x=>some x
  | none=>limE p.query
end Go.Proofs.YtaphnbaiamnfpaaGreatDoor.Px
namespace Go.Proofs.YtaphnbaiamnfpaaGreatDoor.Ps
set_option linter.unusedVariables false
open Go Go.RowKit Px
open Lx (Tok)
def kqS:Option E->V
 | some e=>V.tup [eV e,V.one (bX true)]
 | none=>V.tup [eV noE,V.one (bX false)]
def limX:Option (Int × Int)->List X
 | none=>fine
 | some (a,b)=>[iX 2,sX [],iX a,iX b]
theorem kDr (ks:List E) (hk:ks.length < 9223372036854775807) (n:Nat) (hn:n<=40) (H:∀ x∈ks,Cal 90 [eV x,nV (Int.ofNat n)] [] (RV (kqS (kfW x n)))) (x4 x5:Int) (s6:ByteArray) (x7 x8:Int):∀ (d i:Nat),i<=ks.length->ks.length - i=d ->
 Ev (fun m k z=>kwq m (Ak k) z (Int.ofNat n+1) (E.rows ks) (Int.ofNat ks.length) (Int.ofNat i) x4 x5 s6 x7 x8) (RV (kqS (kfl (ks.drop i) n))):=by
 intro d
 induction d with
 | zero =>
  intro i hi hd
  rw [List.drop_eq_nil_of_le (by omega),kfl]
  refine Ev.step ?_
  simp only [ko0]
  refine Ev.no (kba i _ (by omega)) ?_
  simp only [kwU]
  refine Ev.of fun m k z=>?_
  unfold kqS eV noE
  simp only [E.rows_nil,E.kids]
  rfl
 | succ d ih =>
  intro i hi hd
  have hlt:i < ks.length:=by omega
  have hat:=E.rows_at ks i hlt
  rw [E.row_eq] at hat
  rw [List.drop_eq_getElem_cons hlt,kfl]
  refine Ev.step ?_
  simp only [ko0]
  refine Ev.yes (kaz i _ hlt) ?_
  simp only [kwT,tn,hat]
  refine Ev.yes (kak i _ (by rw [E.rows_len];exact hlt)) ?_
  have hw:IntKind.wrap .i64 (Int.ofNat n+1 - 1)=Int.ofNat n:=by rw [wrap_in _ (by simp only [Int.ofNat_eq_natCast];omega) (by simp only [Int.ofNat_eq_natCast];omega)];omega
  rw [hw]
  have hc:=H ks[i] (List.getElem_mem hlt)
  cases hx:kfW ks[i] n with
  | some y =>
   rw [hx] at hc
   exact kbr hc (Ev.yes rfl (Ev.ret _))
  | none =>
   rw [hx] at hc
   refine kbr hc (Ev.no rfl ?_)
   simp only [kw4,kap i (by omega)]
   exact ih (i+1) (by omega) (by omega)
mutual
def keD:E->Prop
 | .mk _ _ _ _ _ ks _ _=>ks.length < 9223372036854775807∧keT ks
def keT:List E->Prop
 | []=>True
 | x :: r=>keD x∧keT r
end
mutual
theorem kx8:∀ (e:E),keD e->∀ n,n<=40->Cal 90 [eV e,nV (Int.ofNat n)] [] (RV (kqS (kfW e n)))
 | e,hs,0,_=>by
  rw [kph]
  refine kzs _ _ _ _ _ _ _ _ _ ?_
  simp only [kzo]
  exact Ev.yes rfl (Ev.ret _)
 | .mk k m s ns os ks a b,hs,n+1,hn=>by
  rw [keD] at hs
  rw [kis]
  refine kzs _ _ _ _ _ _ _ _ _ ?_
  simp only [kzo]
  refine Ev.no (decide_eq_false (by simp only [Int.ofNat_eq_natCast];omega)) ?_
  simp only [kwH]
  have:=kDr ks hs.1 n (by omega) (kkv ks hs.2 n (by omega))
  have h2:=fun (x4 x5:Int) (s6:ByteArray) (x7 x8:Int)=>Ev.diag (this x4 x5 s6 x7 x8 _ 0 (Nat.zero_le _) rfl)
  have e1:Int.ofNat (E.rows (E.mk k m s ns os ks a b).kids).length=Int.ofNat ks.length:=congrArg Int.ofNat (E.rows_len ks)
  rw [e1]
  exact h2 _ _ _ _ _
theorem kkv:∀ (ks:List E),keT ks->∀ n,n<=40->∀ x∈ks,Cal 90 [eV x,nV (Int.ofNat n)] [] (RV (kqS (kfW x n)))
 | [],_,_,_,x,hx=>by cases hx
 | y :: r,hs,n,hn,x,hx=>by
  rw [keT] at hs
  rcases List.mem_cons.1 hx with h | h
  · rw [h];exact kx8 y hs.1 n hn
  · exact kkv r hs.2 n hn x h
end
theorem klI (e:E) (hs:keD e):Cal 45 [eV e] [] (RV (V.agg (limX (limE e)))):=by
 refine kHE _ _ _ _ _ _ _ _ ?_
 simp only [kHn]
 have h:=kx8 e hs 40 (by decide)
 unfold limE
 cases hd:kfW e 40 with
 | some y =>
  rw [hd] at h
  exact kbr h (Ev.yes rfl (Ev.ret _))
 | none =>
  rw [hd] at h
  refine kbr h (Ev.no rfl ?_)
  exact Ev.of fun m k n=>by rw [kwB];rfl
end Go.Proofs.YtaphnbaiamnfpaaGreatDoor.Ps
namespace Go.Proofs.YtaphnbaiamnfpaaGreatDoor.Ps
set_option linter.unusedVariables false
set_option linter.unusedSimpArgs false
open Go Go.RowKit Px
open Lx (Tok)
mutual
def kfn:T->Prop
 | .mk _ l=>l.length < 9223372036854775807∧keU l
def keU:List T->Prop
 | []=>True
 | x :: r=>kfn x∧keU r
end
theorem klJ (ks:List T) (i:Nat) (h:i < ks.length) (a:Int):kcR (ks.drop i) a=kcR (ks.drop (i+1)) (big a (kfX ks[i])):=by
 rw [List.drop_eq_getElem_cons h,kcR]
theorem kAp (ks:List T) (hk:ks.length < 9223372036854775807) (H:∀ x∈ks,Cal 81 [tV x] [] (RV (nV (kfX x)))):∀ (d i:Nat) (a:Int),i<=ks.length->ks.length - i=d ->
 Ev (fun m k z=>kwo m (Ak k) z a (T.rows ks) (Int.ofNat ks.length) (Int.ofNat i)) (RV (nV (IntKind.wrap .i64 (kcR (ks.drop i) a+1)))):=by
 intro d
 induction d with
 | zero =>
  intro i a hi hd
  rw [List.drop_eq_nil_of_le (by omega),kcR]
  refine Ev.step ?_
  simp only [koY]
  refine Ev.no (kba i _ (by omega)) ?_
  simp only [kwN]
  exact Ev.ret _
 | succ d ih =>
  intro i a hi hd
  have hlt:i < ks.length:=by omega
  have hat:=T.rows_at ks i hlt
  rw [T.row_eq] at hat
  rw [klJ ks i hlt]
  refine Ev.step ?_
  simp only [koY]
  refine Ev.yes (kaz i _ hlt) ?_
  simp only [kwM,tn,hat]
  refine Ev.yes (kak i _ (by rw [T.rows_len];exact hlt)) ?_
  have hc:=H ks[i] (List.getElem_mem hlt)
  refine v_oI hc ?_
  simp only [kwX,kap i (show i < 9223372036854775807 by omega)]
  exact ih (i+1) _ (by omega) (by omega)
mutual
theorem kqT:∀ (t:T),kfn t->Cal 81 [tV t] [] (RV (nV (kfX t)))
 | .mk k l,hs=>by
  rw [kfn] at hs
  rw [knm]
  refine kHH _ _ ?_
  simp only [kHq]
  have:=Ev.diag (kAp l hs.1 (knn l hs.2) _ 0 0 (Nat.zero_le _) rfl)
  have e1:Int.ofNat (T.rows (T.mk k l).l).length=Int.ofNat l.length:=congrArg Int.ofNat (T.rows_len l)
  rw [e1]
  exact this
theorem knn:∀ (ks:List T),keU ks->∀ x∈ks,Cal 81 [tV x] [] (RV (nV (kfX x)))
 | [],_,x,hx=>by cases hx
 | y :: r,hs,x,hx=>by
  rw [keU] at hs
  rcases List.mem_cons.1 hx with h | h
  · rw [h];exact kqT y hs.1
  · exact knn r hs.2 x h
end
theorem kqU (t:T) (hs:kfn t) (a b:Int):Cal 80 [tV t,nV a,nV b] [] (RV (V.agg (limX (limT t a b)))):=by
 refine kHG _ _ _ _ ?_
 simp only [kHp]
 refine v_oI (kqT t hs) ?_
 unfold limT
 by_cases h:40 < kfX t
 · rw [if_pos h]
   exact Ev.yes (decide_eq_true h) (Ev.ret _)
 · rw [if_neg h]
   exact Ev.no (decide_eq_false h) (Ev.of fun m k n=>by rw [kwE];rfl)
theorem kAq {α:Type} {l:List α} {f:FuncId} {args:α->List V} {o:α->Out} (h:∀ x∈l,Cal f (args x) [] (o x)):∃ K,∀ k,K<=k->∀ x∈l,Ak k false f (args x) []=some (o x):=by
 induction l with
 | nil=>exact ⟨0,fun _ _ x hx=>by cases hx⟩
 | cons y r ih =>
  obtain ⟨K,hK⟩:=ih fun x hx=>h x (List.mem_cons_of_mem _ hx)
  obtain ⟨L,hL⟩:=h y (List.mem_cons_self ..)
  refine ⟨K+L,fun k hk x hx=>?_⟩
  rcases List.mem_cons.1 hx with rfl | hx
  · exact hL k k k (by omega) (by omega) (by omega)
  · exact hK k (by omega) x hx
theorem kit (ks:List Fld) (i:Nat) (h:i < ks.length):kfm (ks.drop i)=match limT ks[i].typ ks[i].line ks[i].col with | some x=>some x | none=>kfm (ks.drop (i+1)):=by
 rw [List.drop_eq_getElem_cons h,kfm]
 all_goals rfl
theorem klK (ks:List Fnc) (i:Nat) (h:i < ks.length):kdz (ks.drop i)=match kuj ks[i] with | some x=>some x | none=>kdz (ks.drop (i+1)):=by
 rw [List.drop_eq_getElem_cons h,kdz]
 all_goals rfl
section
variable (p:Pg) (x13 x15 x16:Int) (s14:ByteArray)
theorem kno (f:Fnc) (hk:f.params.length < 9223372036854775807) (Γ:Bool->SemL) (m' n:Nat) (r0:List (List D)) (x1 x2:Int)
 (H:∀ x∈f.params,Γ false 80 [tV x.typ,nV x.line,nV x.col] []=some (RV (V.agg (limX (limT x.typ x.line x.col))))):∀ (d i:Nat),i<=f.params.length->f.params.length - i=d->∀ m,d < m ->
 kwp m Γ m' n r0 x1 x2 (D.list 5 (Fld.rows f.params)) (Int.ofNat f.params.length) (Int.ofNat i) (Fld.rows p.inputs) (Fnc.rows p.funs) p.query.k p.query.n (bx p.query.name) (strs p.query.names) (ints p.query.odds) (E.rows p.query.kids) p.query.line p.query.col x13 s14 x15 x16 (D.str (bx f.name)) (D.list 5 (Fld.rows f.params)) (D.int IntKind.i64 f.res.k) (D.list 2 (T.rows f.res.l)) (D.int IntKind.i64 f.body.k) (D.int IntKind.i64 f.body.n) (D.str (bx f.body.name)) (D.list 1 (strs f.body.names)) (D.list 1 (ints f.body.odds)) (D.list 8 (E.rows f.body.kids)) (D.int IntKind.i64 f.body.line) (D.int IntKind.i64 f.body.col) (D.int IntKind.i64 f.line) (D.int IntKind.i64 f.col) =
 match kfm (f.params.drop i) with
 | some x=>some (RV (V.agg (limX (some x))))
 | none=>kwr Γ m' n r0 x1 x2 (Fld.rows p.inputs) (Fnc.rows p.funs) p.query.k p.query.n (bx p.query.name) (strs p.query.names) (ints p.query.odds) (E.rows p.query.kids) p.query.line p.query.col x13 s14 x15 x16 (D.str (bx f.name)) (D.list 5 (Fld.rows f.params)) (D.int IntKind.i64 f.res.k) (D.list 2 (T.rows f.res.l)) (D.int IntKind.i64 f.body.k) (D.int IntKind.i64 f.body.n) (D.str (bx f.body.name)) (D.list 1 (strs f.body.names)) (D.list 1 (ints f.body.odds)) (D.list 8 (E.rows f.body.kids)) (D.int IntKind.i64 f.body.line) (D.int IntKind.i64 f.body.col) (D.int IntKind.i64 f.line) (D.int IntKind.i64 f.col):=by
 intro d
 induction d with
 | zero =>
  intro i hi hd m hm
  obtain ⟨m,rfl⟩:∃ m',m=m'+1:=⟨m - 1,by omega⟩
  rw [List.drop_eq_nil_of_le (by omega),kfm,koZ,kba i _ (by omega),cond_false]
 | succ d ih =>
  intro i hi hd m hm
  obtain ⟨m,rfl⟩:∃ m',m=m'+1:=⟨m - 1,by omega⟩
  have hlt:i < f.params.length:=by omega
  have hat:=Fld.rows_at f.params i hlt
  rw [kit _ i hlt,koZ,kaz i _ hlt,cond_true,kwO]
  rw [show D.rows (D.list 5 (Fld.rows f.params))=Fld.rows f.params from rfl,show D.isList 5 (D.list 5 (Fld.rows f.params))=true from rfl,cond_true,Fld.rows_len,kak i _ hlt,cond_true,tn,hat]
  have hc:=H f.params[i] (List.getElem_mem hlt)
  cases hx:limT f.params[i].typ f.params[i].line f.params[i].col with
  | some x =>
   obtain ⟨a,b⟩:=x
   rw [hx] at hc
   refine (congrArg (fun z=>kbM z _ _) hc).trans ?_
   rfl
  | none =>
   rw [hx] at hc
   refine (congrArg (fun z=>kbM z _ _) hc).trans ?_
   refine (kuY _ _ _ _ _ _).trans ?_
   show kCs _ _ _ _ _ _ _ _ _ _ _ _ _ _ _ _ _ _ _ _ _ _ _ _ _ _ _ _ _ _ _ _ _ _ _ _ _ _=_
   rw [kwY,kap i (by omega)]
   exact ih (i+1) (by omega) (by omega) m (by omega)
structure SmallFn (f:Fnc):Prop where
 len:f.params.length < 9223372036854775807
 typ:∀ x∈f.params,kfn x.typ
 res:kfn f.res
 body:keD f.body
structure SmallP (p:Pg):Prop where
 ilen:p.inputs.length < 9223372036854775807
 ityp:∀ x∈p.inputs,kfn x.typ
 flen:p.funs.length < 9223372036854775807
 fn:∀ f∈p.funs,SmallFn f
 query:keD p.query
theorem kDs (fs:List Fnc) (hk:fs.length < 9223372036854775807) (hs:∀ f∈fs,SmallFn f) (hq:keD p.query):∀ (d i:Nat),i<=fs.length->fs.length - i=d ->
 Ev (fun m k n=>kwn m (Ak k) n (Fnc.rows fs) (Int.ofNat fs.length) (Int.ofNat i) (Fld.rows p.inputs) (Fnc.rows p.funs) p.query.k p.query.n (bx p.query.name) (strs p.query.names) (ints p.query.odds) (E.rows p.query.kids) p.query.line p.query.col x13 s14 x15 x16)
  (RV (V.agg (limX (match kdz (fs.drop i) with | some x=>some x | none=>limE p.query)))):=by
 intro d
 induction d with
 | zero =>
  intro i hi hd
  rw [List.drop_eq_nil_of_le (by omega),kdz]
  refine Ev.step ?_
  simp only [koX]
  refine Ev.no (kba i _ (by omega)) ?_
  simp only [kwG]
  have h:=klI p.query hq
  cases hx:limE p.query with
  | none=>rw [hx] at h;exact kbN h (Ev.ret _)
  | some x=>obtain ⟨a,b⟩:=x;rw [hx] at h;exact kbN h (Ev.ret _)
 | succ d ih =>
  intro i hi hd
  have hlt:i < fs.length:=by omega
  have hat:=Fnc.rows_at fs i hlt
  rw [Fnc.row_eq] at hat
  rw [klK _ i hlt]
  refine Ev.step ?_
  simp only [koX]
  refine Ev.yes (kaz i _ hlt) ?_
  simp only [kwF,tn,hat]
  refine Ev.yes (kak i _ (by rw [Fnc.rows_len];exact hlt)) ?_
  refine Ev.yes rfl ?_
  have hf:=hs fs[i] (List.getElem_mem hlt)
  have next:=ih (i+1) (by omega) (by omega)
  generalize fs[i]=f at hf
  have e1:Int.ofNat (D.rows (List.getD [D.str (bx f.name),D.list 5 (Fld.rows f.params),D.int IntKind.i64 f.res.k,D.list 2 (T.rows f.res.l),D.int IntKind.i64 f.body.k,D.int IntKind.i64 f.body.n,D.str (bx f.body.name),D.list 1 (strs f.body.names),D.list 1 (ints f.body.odds),D.list 8 (E.rows f.body.kids),D.int IntKind.i64 f.body.line,D.int IntKind.i64 f.body.col,D.int IntKind.i64 f.line,D.int IntKind.i64 f.col] 1 D.junk)).length=Int.ofNat f.params.length:=congrArg Int.ofNat (Fld.rows_len _)
  rw [e1]
  obtain ⟨K,hK⟩:=kAq (l:=f.params) (f:=80) (args:=fun x=>[tV x.typ,nV x.line,nV x.col]) (o:=fun x=>RV (V.agg (limX (limT x.typ x.line x.col)))) fun x hx=>kqU x.typ (hf.typ x hx) _ _
  unfold kuj
  cases hp:kfm f.params with
  | some x =>
   refine ⟨K+f.params.length+1,fun m k n h1 h2 h3=>?_⟩
   refine (kno p x13 x15 x16 s14 f hf.len (Ak k) m n (Fnc.rows fs) (Int.ofNat fs.length) (Int.ofNat i) (hK k (by omega)) f.params.length 0 (Nat.zero_le _) rfl m (by omega)).trans ?_
   rw [List.drop_zero,hp]
  | none =>
   have tail:Ev (fun m k n=>kwr (Ak k) m n (Fnc.rows fs) (Int.ofNat fs.length) (Int.ofNat i) (Fld.rows p.inputs) (Fnc.rows p.funs) p.query.k p.query.n (bx p.query.name) (strs p.query.names) (ints p.query.odds) (E.rows p.query.kids) p.query.line p.query.col x13 s14 x15 x16 (D.str (bx f.name)) (D.list 5 (Fld.rows f.params)) (D.int IntKind.i64 f.res.k) (D.list 2 (T.rows f.res.l)) (D.int IntKind.i64 f.body.k) (D.int IntKind.i64 f.body.n) (D.str (bx f.body.name)) (D.list 1 (strs f.body.names)) (D.list 1 (ints f.body.odds)) (D.list 8 (E.rows f.body.kids)) (D.int IntKind.i64 f.body.line) (D.int IntKind.i64 f.body.col) (D.int IntKind.i64 f.line) (D.int IntKind.i64 f.col))
    (RV (V.agg (limX (match (match limT f.res f.line f.col with | some x=>some x | none=>limE f.body) with | some x=>some x | none=>match kdz (fs.drop (i+1)) with | some x=>some x | none=>limE p.query)))):=by
    simp only [kwP]
    have h:=kqU f.res hf.res f.line f.col
    cases hr:limT f.res f.line f.col with
    | some x =>
     obtain ⟨a,b⟩:=x
     rw [hr] at h
     exact kbN h (Ev.yes rfl (Ev.ret _))
    | none =>
     rw [hr] at h
     refine kbN h (Ev.no rfl ?_)
     simp only [kwZ]
     have h2:=klI f.body hf.body
     cases hb:limE f.body with
     | some x =>
      obtain ⟨a,b⟩:=x
      rw [hb] at h2
      exact kbN h2 (Ev.yes rfl (Ev.ret _))
     | none =>
      rw [hb] at h2
      refine kbN h2 (Ev.no rfl ?_)
      simp only [kw5,kap i (show i < 9223372036854775807 by omega)]
      exact next
   obtain ⟨L,hL⟩:=tail
   refine ⟨K+L+f.params.length+1,fun m k n h1 h2 h3=>?_⟩
   refine (kno p x13 x15 x16 s14 f hf.len (Ak k) m n (Fnc.rows fs) (Int.ofNat fs.length) (Int.ofNat i) (hK k (by omega)) f.params.length 0 (Nat.zero_le _) rfl m (by omega)).trans ?_
   rw [List.drop_zero,hp]
   refine (hL m k n (by omega) (by omega) (by omega)).trans ?_
   clear hL
   cases limT f.res f.line f.col with
   | some x=>rfl
   | none=>cases limE f.body<;>rfl
theorem kuk (hs:SmallP p):∀ (d i:Nat),i<=p.inputs.length->p.inputs.length - i=d ->
 Ev (fun m k n=>kwm m (Ak k) n (Fld.rows p.inputs) (Int.ofNat p.inputs.length) (Int.ofNat i) (Fld.rows p.inputs) (Fnc.rows p.funs) p.query.k p.query.n (bx p.query.name) (strs p.query.names) (ints p.query.odds) (E.rows p.query.kids) p.query.line p.query.col x13 s14 x15 x16)
  (RV (V.agg (limX (match kfm (p.inputs.drop i) with | some x=>some x | none=>match kdz p.funs with | some x=>some x | none=>limE p.query)))):=by
 intro d
 induction d with
 | zero =>
  intro i hi hd
  rw [List.drop_eq_nil_of_le (by omega),kfm]
  refine Ev.step ?_
  simp only [koW]
  refine Ev.no (kba i _ (by omega)) ?_
  simp only [kwz,Fnc.rows_len]
  exact Ev.diag (kDs p _ _ _ _ p.funs hs.flen hs.fn hs.query _ 0 (Nat.zero_le _) rfl)
 | succ d ih =>
  intro i hi hd
  have hlt:i < p.inputs.length:=by omega
  have hat:=Fld.rows_at p.inputs i hlt
  rw [kit _ i hlt]
  refine Ev.step ?_
  simp only [koW]
  refine Ev.yes (kaz i _ hlt) ?_
  simp only [kwy,tn,hat]
  refine Ev.yes (kak i _ (by rw [Fld.rows_len];exact hlt)) ?_
  have h:=kqU p.inputs[i].typ (hs.ityp _ (List.getElem_mem hlt)) p.inputs[i].line p.inputs[i].col
  cases hr:limT p.inputs[i].typ p.inputs[i].line p.inputs[i].col with
  | some x =>
   obtain ⟨a,b⟩:=x
   rw [hr] at h
   exact kbN h (Ev.yes rfl (Ev.ret _))
  | none =>
   rw [hr] at h
   refine kbN h (Ev.no rfl ?_)
   have:=hs.ilen
   simp only [kwA,kap i (show i < 9223372036854775807 by omega)]
   exact ih (i+1) (by omega) (by omega)
end
theorem kul (p:Pg) (hs:SmallP p):Cal 33 [pV p] [] (RV (V.agg (limX (limP p)))):=by
 refine kHz _ _ _ _ _ _ _ _ _ _ ?_
 simp only [kHi,Fld.rows_len]
 exact Ev.diag (kuk p _ _ _ _ hs _ 0 (Nat.zero_le _) rfl)
end Go.Proofs.YtaphnbaiamnfpaaGreatDoor.Ps
namespace Go.Proofs.YtaphnbaiamnfpaaGreatDoor.Ps
set_option linter.unusedVariables false
set_option linter.unusedSimpArgs false
open Go Go.RowKit Px
open Lx (Tok tok scan sm dg nm sgn val isWord ws nnl Flt)
theorem wEs_len:∀ l:List E,l.length<=wEs l
 | []=>by rw [wEs];exact Nat.le_refl _
 | x :: r=>by
  have:=wEs_len r
  have:=kxH x
  rw [wEs,List.length_cons]
  omega
mutual
theorem kjl:∀ e:E,wE e < 9223372036854775807->keD e
 | .mk k n s ns os ks a b,h=>by
  rw [wE] at h
  rw [keD]
  have:=wEs_len ks
  exact ⟨by omega,knp ks (by omega)⟩
theorem knp:∀ l:List E,wEs l < 9223372036854775807->keT l
 | [],_=>by rw [keT];trivial
 | x :: r,h=>by
  rw [wEs] at h
  rw [keT]
  exact ⟨kjl x (by omega),knp r (by omega)⟩
end
theorem wT_pos (t:T):1<=wT t:=by cases t;rw [wT];omega
theorem wTs_len:∀ l:List T,l.length<=wTs l
 | []=>by rw [wTs];exact Nat.le_refl _
 | x :: r=>by
  have:=wTs_len r
  have:=wT_pos x
  rw [wTs,List.length_cons]
  omega
mutual
theorem kjm:∀ t:T,wT t < 9223372036854775807->kfn t
 | .mk k l,h=>by
  rw [wT] at h
  rw [kfn]
  have:=wTs_len l
  exact ⟨by omega,knq l (by omega)⟩
theorem knq:∀ l:List T,wTs l < 9223372036854775807->keU l
 | [],_=>by rw [keU];trivial
 | x :: r,h=>by
  rw [wTs] at h
  rw [keU]
  exact ⟨kjm x (by omega),knq r (by omega)⟩
end
theorem wFs_len:∀ l:List Fld,l.length<=wFs l
 | []=>Nat.le_refl _
 | x :: r=>by
  have:=wFs_len r
  have:=wT_pos x.typ
  rw [wFs,List.length_cons,wF]
  omega
theorem wFs_mem:∀ (l:List Fld) (x:Fld),x∈l->wT x.typ<=wFs l
 | y :: r,x,h=>by
  rw [wFs]
  rcases List.mem_cons.1 h with rfl | h
  · rw [wF];omega
  · have:=wFs_mem r x h;omega
theorem wFns_len:∀ l:List Fnc,l.length<=wFns l
 | []=>Nat.le_refl _
 | x :: r=>by
  have:=wFns_len r
  rw [wFns,List.length_cons,wFn]
  omega
theorem wFns_mem:∀ (l:List Fnc) (x:Fnc),x∈l->wFn x<=wFns l
 | y :: r,x,h=>by
  rw [wFns]
  rcases List.mem_cons.1 h with rfl | h
  · omega
  · have:=wFns_mem r x h;omega
theorem kAr (p:Pg) (h:wFs p.inputs+wFns p.funs+wE p.query < 9223372036854775807):SmallP p where
 ilen:=by have:=wFs_len p.inputs;omega
 ityp:=fun x hx=>kjm _ (by have:=wFs_mem _ x hx;omega)
 flen:=by have:=wFns_len p.funs;omega
 fn:=fun f hf=>by
  have:=wFns_mem _ f hf
  rw [wFn] at this
  exact ⟨by have:=wFs_len f.params;omega,fun x hx=>kjm _ (by have:=wFs_mem _ x hx;omega),kjm _ (by omega),kjl _ (by omega)⟩
 query:=kjl _ (by omega)
def okF:Flt:=⟨0,[],0,0⟩
def limF (x:Int × Int):Flt:=⟨2,[],x.1,x.2⟩
def kpi (l:List Tok):E × Flt :=
 match khu l with
 | .ok a _=>match limE a with
  | none=>(a,okF)
  | some x=>(noE,limF x)
 | .no j=>(noE,tokF (tk l j))
 | .out=>(noE,okF)
def kqV (s:List UInt8):E × Flt :=
 if 20000 < s.length then (noE,limF (0,0)) else
 match scan s 1 1 with
 | .error g=>(noE,g)
 | .ok l=>kpi l
theorem kDt (s:List UInt8):Cal 15 [V.one (X.d (D.str (bx s)))] [] (RV (V.tup [eV (kqV s).1,V.agg (fltX (kqV s).2)])):=by
 obtain ⟨f,e,ho,hc⟩:=kAo s
 refine kHA _ ?_
 simp only [kHj]
 unfold kjk at ho
 unfold kqV
 by_cases hs:20000 < s.length
 · rw [if_pos hs] at ho ⊢
   obtain ⟨rfl,rfl⟩:=ho
   refine kbe hc (Ev.no rfl ?_)
   simp only [kfM]
   exact Ev.yes rfl (Ev.of fun m k n=>by unfold eV noE;simp only [E.kids,E.rows_nil];rfl)
 rw [if_neg hs] at ho ⊢
 cases hsc:scan s 1 1 with
 | error g =>
  rw [hsc] at ho
  obtain ⟨rfl,rfl⟩:=ho
  have hb:=kcQ _ s 1 1 g (Nat.lt_succ_self _) hsc
  refine kbe hc (Ev.no (by simpa using hb) ?_)
  simp only [kfM]
  exact Ev.yes (by simpa using hb) (Ev.of fun m k n=>by unfold eV noE;simp only [E.kids,E.rows_nil];rfl)
 | ok l =>
  rw [hsc] at ho
  have hfew:=kec (by omega) hsc
  show Ev _ (RV (V.tup [eV (kpi l).1,V.agg (fltX (kpi l).2)]))
  unfold kpi
  simp only at ho
  cases hw:khu l with
  | out=>rw [hw] at ho;exact ho.elim
  | no j =>
   rw [hw] at ho
   simp only at ho
   subst ho
   refine kbe hc (Ev.no rfl ?_)
   simp only [kfM]
   exact Ev.yes rfl (Ev.of fun m k n=>by unfold eV noE;simp only [E.kids,E.rows_nil];rfl)
  | ok a j =>
   rw [hw] at ho
   obtain ⟨rfl,rfl⟩:=ho
   have hsm:keD e:=by
    have h2:khu l=kdE (pw l .expr 0) fun e j=>run (pw l) l (.knd 5 (.ret e) .fail) j:=kai _ _ _
    rw [h2] at hw
    cases hp:pw l .expr 0 with
    | out=>rw [hp] at hw;cases hw
    | no k=>rw [hp] at hw;cases hw
    | ok b k =>
     rw [hp] at hw
     have h3:=kzD hp
     have h4:=(kbf hfew.1.good hfew.2.2 hp).2
     have h5:=hfew.1.len
     have:b=e:=by
      replace hw:run (pw l) l (.knd 5 (.ret b) .fail) k=.ok e j:=hw
      rw [run] at hw
      cases hk:(tk l k).kind==5 with
      | true=>rw [hk] at hw;cases hw;rfl
      | false=>rw [hk] at hw;cases hw
     subst this
     refine kjl b ?_
     have h6:wE b+0<=0+k:=h3
     omega
   have hl:=klI e hsm
   refine kbe hc (Ev.yes rfl ?_)
   simp only
   cases hx:limE e with
   | none =>
    rw [hx] at hl
    refine kbN hl ?_
    simp only [kfM,kwC]
    exact Ev.no rfl (Ev.ret _)
   | some x =>
    rw [hx] at hl
    refine kbN hl ?_
    simp only [kfM]
    exact Ev.yes rfl (Ev.of fun m k n=>by unfold eV noE;simp only [E.kids,E.rows_nil];rfl)
abbrev PXl:List Lf:=[Lf.lst 5,Lf.lst 14,Lf.int IntKind.i64,Lf.int IntKind.i64,Lf.str,Lf.lst 1,Lf.lst 1,Lf.lst 8,Lf.int IntKind.i64,Lf.int IntKind.i64]
def noP:Pg:=⟨[],[],noE⟩
def khv (l:List Tok):Rs Pg:=run (pw l) l (.call .program fun e=>.knd 5 (.ret e) .fail) 0
theorem kDu (l:List Tok) (hl:Few l) (hn:Nums l) (i:Nat) (hi:i < l.length) (e0:Pg) :
 Cal 31 [V.one (X.ptr 0 0),V.one (X.ptr 1 0)] [(RD,rd l i),(PXl,pX e0)] (match pw l .program i with
  | .ok a j=>⟨true,V.tup [],D.junk,[rd l j,pX a],0⟩
  | .no j=>⟨false,V.junk,flt (tk l j),[rd l j,pX e0],0⟩
  | .out=>⟨true,V.junk,D.junk,[],0⟩):=by
 have h:=program_ok hl hn i hi (keN hl.good _ i hi)
 refine kHB _ _ _ _ _ _ _ _ _ _ _ _ ?_
 simp only [kHk]
 cases hp:pw l .program i with
 | ok a j =>
  rw [hp] at h
  exact kc3 h (Ev.ret _)
 | no j =>
  rw [hp] at h
  exact kc4 h (Ev.ret _)
 | out=>exact absurd hp (keN hl.good _ i hi)
def kgL (s:List UInt8) (f:List X) (e:Pg):Prop :=
 if 20000 < s.length then f=[iX 2,sX [],iX 0,iX 0]∧e=noP else
 match scan s 1 1 with
 | .error g=>f=fltX g∧e=noP
 | .ok l=>match khv l with
  | .ok a _=>f=fine∧e=a
  | .no j=>f=fltX (tokF (tk l j))
  | .out=>False
theorem kAs (s:List UInt8):∃ f e,kgL s f e∧Cal 30 [V.one (X.d (D.str (bx s))),V.one (X.fn 31 [X.ptr 0 0])] [(PXl,pX noP)] ⟨true,V.agg f,D.junk,[pX e],0⟩:=by
 have ht:=kjc s
 by_cases hs:20000 < s.length
 · rw [if_pos hs] at ht
   refine ⟨_,_,by unfold kgL;rw [if_pos hs];exact ⟨rfl,rfl⟩,?_⟩
   refine kd7 _ _ _ _ _ _ _ _ _ _ _ ?_
   simp only [kd5]
   exact kaG ht (Ev.yes rfl (Ev.ret _))
 rw [if_neg hs] at ht
 unfold kgL
 simp only [if_neg hs]
 cases hsc:scan s 1 1 with
 | error g =>
  rw [hsc] at ht
  refine ⟨_,_,⟨rfl,rfl⟩,?_⟩
  refine kd7 _ _ _ _ _ _ _ _ _ _ _ ?_
  simp only [kd5]
  have tl:kcw [] (.error g)=V.tup [V.one (X.d (D.list 5 [])),V.agg (fltX g)]:=rfl
  rw [tl] at ht
  exact kaG ht (Ev.yes (by simpa using kcQ _ s 1 1 g (Nat.lt_succ_self _) hsc) (Ev.ret _))
 | ok l =>
  rw [hsc] at ht
  have hfew:=kec (by omega) hsc
  have h0:=hfew.2.2
  have hlit:=kDu l hfew.1 hfew.2.1 0 h0 noP
  have tl:kcw [] (.ok l)=V.tup [V.one (X.d (D.list 5 (toks l))),V.agg fine]:=rfl
  rw [tl] at ht
  simp only
  have e0:khv l=kdE (pw l .program 0) fun e j=>run (pw l) l (.knd 5 (.ret e) .fail) j:=kai _ _ _
  rw [e0]
  cases hp:pw l .program 0 with
  | out=>exact absurd hp (keN hfew.1.good _ 0 h0)
  | no j =>
   rw [hp] at hlit
   refine ⟨_,noP,rfl,?_⟩
   refine kd7 _ _ _ _ _ _ _ _ _ _ _ ?_
   simp only [kd5]
   refine kaG ht (Ev.no rfl ?_)
   simp only [kj6]
   exact kdd hlit (Ev.of fun m k n=>rfl)
  | ok a j =>
   rw [hp] at hlit
   have hf:=kbf hfew.1.good h0 hp
   have ht2:=kc1 hf.2
   show ∃ f e,(match run (pw l) l (.knd 5 (.ret a) .fail) j with
    | .ok a _=>f=fine∧e=a
    | .no j=>f=fltX (tokF (tk l j))
    | .out=>False)∧_
   rw [run]
   cases hk:(tk l j).kind==5 with
   | true =>
    refine ⟨_,a,⟨rfl,rfl⟩,?_⟩
    refine kd7 _ _ _ _ _ _ _ _ _ _ _ ?_
    simp only [kd5]
    refine kaG ht (Ev.no rfl ?_)
    simp only [kj6,kwx]
    exact kbS hlit (kaF ht2 (Ev.no (by rw [bne,hk];rfl) (Ev.ret _)))
   | false =>
    refine ⟨_,a,rfl,?_⟩
    refine kd7 _ _ _ _ _ _ _ _ _ _ _ ?_
    simp only [kd5]
    refine kaG ht (Ev.no rfl ?_)
    simp only [kj6]
    exact kbS hlit (kaF ht2 (Ev.yes (by rw [bne,hk];rfl) (kgl (kkt hf.2) (Ev.of fun m k n=>rfl))))
def kiu (l:List Tok):Pg × Flt :=
 match khv l with
 | .ok a _=>match limP a with
  | none=>(a,okF)
  | some x=>(noP,limF x)
 | .no j=>(noP,tokF (tk l j))
 | .out=>(noP,okF)
def kqW (s:List UInt8):Pg × Flt :=
 if 20000 < s.length then (noP,limF (0,0)) else
 match scan s 1 1 with
 | .error g=>(noP,g)
 | .ok l=>kiu l
theorem kqX (s:List UInt8):Cal 10 [V.one (X.d (D.str (bx s)))] [] (RV (V.tup [pV (kqW s).1,V.agg (fltX (kqW s).2)])):=by
 obtain ⟨f,e,ho,hc⟩:=kAs s
 refine kHy _ ?_
 simp only [kHh]
 unfold kgL at ho
 unfold kqW
 by_cases hs:20000 < s.length
 · rw [if_pos hs] at ho ⊢
   obtain ⟨rfl,rfl⟩:=ho
   refine kaU hc (Ev.no rfl ?_)
   simp only [kfL]
   exact Ev.yes rfl (Ev.of fun m k n=>by unfold pV pX noP noE;simp only [E.kids,E.rows_nil];rfl)
 rw [if_neg hs] at ho ⊢
 cases hsc:scan s 1 1 with
 | error g =>
  rw [hsc] at ho
  obtain ⟨rfl,rfl⟩:=ho
  have hb:=kcQ _ s 1 1 g (Nat.lt_succ_self _) hsc
  refine kaU hc (Ev.no (by simpa using hb) ?_)
  simp only [kfL]
  exact Ev.yes (by simpa using hb) (Ev.of fun m k n=>by unfold pV pX noP noE;simp only [E.kids,E.rows_nil];rfl)
 | ok l =>
  rw [hsc] at ho
  have hfew:=kec (by omega) hsc
  show Ev _ (RV (V.tup [pV (kiu l).1,V.agg (fltX (kiu l).2)]))
  unfold kiu
  simp only at ho
  cases hw:khv l with
  | out=>rw [hw] at ho;exact ho.elim
  | no j =>
   rw [hw] at ho
   simp only at ho
   subst ho
   refine kaU hc (Ev.no rfl ?_)
   simp only [kfL]
   exact Ev.yes rfl (Ev.of fun m k n=>by unfold pV pX noP noE;simp only [E.kids,E.rows_nil];rfl)
  | ok a j =>
   rw [hw] at ho
   obtain ⟨rfl,rfl⟩:=ho
   have hsm:SmallP e:=by
    have h2:khv l=kdE (pw l .program 0) fun e j=>run (pw l) l (.knd 5 (.ret e) .fail) j:=kai _ _ _
    rw [h2] at hw
    cases hp:pw l .program 0 with
    | out=>rw [hp] at hw;cases hw
    | no k=>rw [hp] at hw;cases hw
    | ok b k =>
     rw [hp] at hw
     have h3:=kzD hp
     have h4:=(kbf hfew.1.good hfew.2.2 hp).2
     have h5:=hfew.1.len
     have:b=e:=by
      replace hw:run (pw l) l (.knd 5 (.ret b) .fail) k=.ok e j:=hw
      rw [run] at hw
      cases hk:(tk l k).kind==5 with
      | true=>rw [hk] at hw;cases hw;rfl
      | false=>rw [hk] at hw;cases hw
     subst this
     refine kAr b ?_
     have h6:wFs b.inputs+wFns b.funs+wE b.query+0<=0+k:=h3
     omega
   have hl:=kul e hsm
   refine kaU hc (Ev.yes rfl ?_)
   simp only
   cases hx:limP e with
   | none =>
    rw [hx] at hl
    refine kbN hl ?_
    simp only [kfL,kww]
    exact Ev.no rfl (Ev.ret _)
   | some x =>
    rw [hx] at hl
    refine kbN hl ?_
    simp only [kfL]
    exact Ev.yes rfl (Ev.of fun m k n=>by unfold pV pX noP noE;simp only [E.kids,E.rows_nil];rfl)
end Go.Proofs.YtaphnbaiamnfpaaGreatDoor.Ps
namespace Go.Proofs.YtaphnbaiamnfpaaGreatDoor.Ps
set_option linter.unusedVariables false
set_option linter.unusedSimpArgs false
open Go Go.RowKit Px
open Lx (Tok)
theorem kqY (ks:List (List UInt8)) (i:Nat) (h:i < ks.length):(strs ks).getD i []=[D.str (bx ks[i])]:=by
 unfold strs
 rw [kb7 _ _ _ h,List.getD_eq_getElem?_getD,List.getElem?_eq_getElem h]
 rfl
theorem kqZ (ks:List Int) (i:Nat) (h:i < ks.length):(ints ks).getD i []=[D.int IntKind.i64 ks[i]]:=by
 unfold ints
 rw [kb7 _ _ _ h,List.getD_eq_getElem?_getD,List.getElem?_eq_getElem h]
 rfl
theorem kjn (a b:List UInt8):beqL (bx a).data.toList (bx b).data.toList=decide (a=b):=by
 rw [kcZ]
 have e:∀ l:List UInt8,(bx l).data.toList=l:=fun l=>by show l.toArray.toList=l;simp
 rw [e,e]
 by_cases h:a=b
 · rw [decide_eq_true h,h];simp
 · rw [decide_eq_false h];simpa using h
theorem kum {α:Type} (f:α->α->Bool) (a b:List α) (i:Nat) (ha:i < a.length) (hb:i < b.length):eqL f (a.drop i) (b.drop i)=(f a[i] b[i]&&eqL f (a.drop (i+1)) (b.drop (i+1))):=by
 rw [List.drop_eq_getElem_cons ha,List.drop_eq_getElem_cons hb,eqL]
theorem kAt {α:Type} (f:α->α->Bool) (a b:List α) (i:Nat) (ha:a.length<=i) (hb:b.length<=i):eqL f (a.drop i) (b.drop i)=true:=by
 rw [List.drop_eq_nil_of_le ha,List.drop_eq_nil_of_le hb,eqL]
theorem kiv {a b:Nat} (h:a ≠ b):(Int.ofNat a != Int.ofNat b)=true:=by
 rw [bne,Bool.not_eq_true',beq_eq_false_iff_ne]
 exact fun e=>h (Int.ofNat.inj e)
theorem kfY {a b:Nat} (h:a=b):(Int.ofNat a != Int.ofNat b)=false:=by rw [h];simp
theorem ked {α:Type} (f:α->α->Bool) (a b:List α) (hab:a.length=b.length) (ha:a.length<=140737488351232) {F:Nat->Nat->Nat->Nat->Option Out}
 {z:Bool} (hend:Ev (fun m k n=>F (m+1) k n a.length) (RV (V.one (bX z))))
 (hstep:∀ i (h:i < a.length),∀ r:Bool,Ev (fun m k n=>F m k n (i+1)) (RV (V.one (bX r)))->Ev (fun m k n=>F (m+1) k n i) (RV (V.one (bX (f a[i] b[i]&&r))))) :
 ∀ d i,i<=a.length->a.length - i=d->Ev (fun m k n=>F m k n i) (RV (V.one (bX (eqL f (a.drop i) (b.drop i)&&z)))):=by
 intro d
 induction d with
 | zero =>
  intro i hi hd
  obtain rfl:i=a.length:=by omega
  rw [kAt f a b _ (Nat.le_refl _) (by omega),Bool.true_and]
  exact Ev.step hend
 | succ d ih =>
  intro i hi hd
  have hlt:i < a.length:=by omega
  rw [kum f a b i hlt (by omega),Bool.and_assoc]
  exact Ev.step (hstep i hlt _ (ih (i+1) (by omega) (by omega)))
theorem kq0 (a b:List (List UInt8)) (ha:a.length<=140737488351232):Cal 46 [V.one (X.d (D.list 1 (strs a))),V.one (X.d (D.list 1 (strs b)))] [] (RV (V.one (bX (decide (a=b))))):=by
 refine kIm _ _ ?_
 simp only [kIf,kcN]
 rw [<- kp2]
 by_cases h:a.length=b.length
 · refine Ev.no (kfY h) ?_
   simp only [kxk,kcN]
   have:=ked (fun x y:List UInt8=>decide (x=y)) a b h ha (F:=fun m k n i=>kxe m (Ak k) n (strs a) (strs b) (Int.ofNat a.length) (Int.ofNat i)) (by
    simp only [ko5]
    exact Ev.no (kba _ _ (Nat.le_refl _)) (Ev.of fun m k n=>by rw [kxs])) (fun i hi r hr=>by
    simp only [ko5]
    refine Ev.yes (kaz i _ hi) ?_
    simp only [kxr,tn,kqY a i hi,kqY b i (show i < b.length by omega),kcN]
    refine Ev.yes (kak i _ hi) (Ev.yes (kak i _ (by omega)) (Ev.yes rfl (Ev.yes rfl ?_)))
    show Ev (fun m k n=>bif !beqL (bx a[i]).data.toList (bx b[i]).data.toList then _ else _) _
    rw [kjn]
    cases decide (a[i]=b[i]) with
    | false=>exact Ev.yes rfl (Ev.ret _)
    | true =>
     refine Ev.no rfl ?_
     simp only [kxz,kap i (show i < 9223372036854775807 by omega)]
     exact hr) _ 0 (Nat.zero_le _) rfl
   rw [Bool.and_true] at this
   exact Ev.diag this
 · rw [keR _ _ _ h]
   exact Ev.yes (kiv h) (Ev.ret _)
theorem kun (a b:List Int) (ha:a.length<=140737488351232):Cal 47 [V.one (X.d (D.list 1 (ints a))),V.one (X.d (D.list 1 (ints b)))] [] (RV (V.one (bX (decide (a=b))))):=by
 refine kIn _ _ ?_
 simp only [kIg,kfj]
 rw [<- kp2]
 by_cases h:a.length=b.length
 · refine Ev.no (kfY h) ?_
   simp only [kxl,kfj]
   have:=ked (fun x y:Int=>decide (x=y)) a b h ha (F:=fun m k n i=>kxf m (Ak k) n (ints a) (ints b) (Int.ofNat a.length) (Int.ofNat i)) (by
    simp only [ko6]
    exact Ev.no (kba _ _ (Nat.le_refl _)) (Ev.of fun m k n=>by rw [kxu])) (fun i hi r hr=>by
    simp only [ko6]
    refine Ev.yes (kaz i _ hi) ?_
    simp only [kxt,tn,kqZ a i hi,kqZ b i (show i < b.length by omega),kfj]
    refine Ev.yes (kak i _ hi) (Ev.yes (kak i _ (by omega)) (Ev.yes rfl (Ev.yes rfl ?_)))
    show Ev (fun m k n=>bif a[i] != b[i] then _ else _) _
    by_cases hab:a[i]=b[i]
    · rw [decide_eq_true hab]
      refine Ev.no (by rw [hab];simp) ?_
      simp only [kxA,kap i (show i < 9223372036854775807 by omega)]
      exact hr
    · rw [decide_eq_false hab]
      exact Ev.yes (by simpa using hab) (Ev.ret _)) _ 0 (Nat.zero_le _) rfl
   rw [Bool.and_true] at this
   exact Ev.diag this
 · rw [keR _ _ _ h]
   exact Ev.yes (kiv h) (Ev.ret _)
theorem kDv (a b:List E) (ha:a.length<=140737488351232) (H:∀ x∈a,∀ y,Cal 16 [eV x,eV y] [] (RV (V.one (bX (kes x y))))) :
 Cal 48 [V.one (X.d (D.list 8 (E.rows a))),V.one (X.d (D.list 8 (E.rows b))),V.one (X.fn 16 [])] [] (RV (V.one (bX (eqL kes a b)))):=by
 refine ktI _ _ ?_
 simp only [ktE,E.rows_len]
 by_cases h:a.length=b.length
 · refine Ev.no (kfY h) ?_
   simp only [kxm,E.rows_len]
   have:=ked kes a b h ha (F:=fun m k n i=>kxg m (Ak k) n (E.rows b) (E.rows a) (Int.ofNat a.length) (Int.ofNat i)) (by
    simp only [ko7]
    exact Ev.no (kba _ _ (Nat.le_refl _)) (Ev.of fun m k n=>by rw [kxw])) (fun i hi r hr=>by
    simp only [ko7]
    refine Ev.yes (kaz i _ hi) ?_
    simp only [kxv,tn,E.rows_at a i hi,E.rows_at b i (show i < b.length by omega),E.row_eq,E.rows_len]
    refine Ev.yes (kak i _ hi) (Ev.yes (kak i _ (by omega)) ?_)
    refine v_oB (H a[i] (List.getElem_mem hi) b[i]) ?_
    cases kes a[i] b[i] with
    | false=>exact Ev.yes rfl (Ev.ret _)
    | true =>
     refine Ev.no rfl ?_
     simp only [kxB,kap i (show i < 9223372036854775807 by omega)]
     exact hr) _ 0 (Nat.zero_le _) rfl
   rw [Bool.and_true] at this
   exact Ev.diag this
 · rw [keR _ _ _ h]
   exact Ev.yes (kiv h) (Ev.ret _)
theorem kAu (a b:List T) (ha:a.length<=140737488351232) (H:∀ x∈a,∀ y,Cal 42 [tV x,tV y] [] (RV (V.one (bX (kdM x y))))) :
 Cal 85 [V.one (X.d (D.list 2 (T.rows a))),V.one (X.d (D.list 2 (T.rows b))),V.one (X.fn 42 [])] [] (RV (V.one (bX (eqL kdM a b)))):=by
 refine ktJ _ _ ?_
 simp only [ktF,T.rows_len]
 by_cases h:a.length=b.length
 · refine Ev.no (kfY h) ?_
   simp only [kxC,T.rows_len]
   have:=ked kdM a b h ha (F:=fun m k n i=>kxh m (Ak k) n (T.rows b) (T.rows a) (Int.ofNat a.length) (Int.ofNat i)) (by
    simp only [ko8]
    exact Ev.no (kba _ _ (Nat.le_refl _)) (Ev.of fun m k n=>by rw [kxE])) (fun i hi r hr=>by
    simp only [ko8]
    refine Ev.yes (kaz i _ hi) ?_
    simp only [kxD,tn,T.rows_at a i hi,T.rows_at b i (show i < b.length by omega),T.row_eq,T.rows_len]
    refine Ev.yes (kak i _ hi) (Ev.yes (kak i _ (by omega)) ?_)
    refine v_oB (H a[i] (List.getElem_mem hi) b[i]) ?_
    cases kdM a[i] b[i] with
    | false=>exact Ev.yes rfl (Ev.ret _)
    | true =>
     refine Ev.no rfl ?_
     simp only [kxF,kap i (show i < 9223372036854775807 by omega)]
     exact hr) _ 0 (Nat.zero_le _) rfl
   rw [Bool.and_true] at this
   exact Ev.diag this
 · rw [keR _ _ _ h]
   exact Ev.yes (kiv h) (Ev.ret _)
mutual
theorem knr:∀ (a b:E),LenE a->Cal 16 [eV a,eV b] [] (RV (V.one (bX (kes a b))))
 | .mk k n s ns os ks l c,.mk k' n' s' ns' os' ks' l' c',h=>by
  rw [LenE] at h
  obtain ⟨⟨hns,hos,hks⟩,hkk⟩:=h
  have H:=kkw ks hkk
  rw [ktV]
  refine kIl _ _ _ _ _ _ _ _ _ _ _ _ _ _ _ _ ?_
  simp only [kIe]
  show Ev _ (RV (V.one (bX ((k==k')&&((n==n')&&(decide (s=s')&&(decide (ns=ns')&&(decide (os=os')&&eqL kes ks ks'))))))))
  cases h1:k==k' with
  | false=>exact Ev.no h1 (Ev.ret _)
  | true =>
  refine Ev.yes h1 ?_
  cases h2:n==n' with
  | false=>exact Ev.no h2 (Ev.ret _)
  | true =>
  refine Ev.yes h2 ?_
  have h3:=kjn s s'
  cases h4:decide (s=s') with
  | false=>exact Ev.no (h3.trans h4) (Ev.ret _)
  | true =>
  refine Ev.yes (h3.trans h4) ?_
  refine v_oB (kq0 ns ns' hns) ?_
  cases h5:decide (ns=ns') with
  | false=>exact Ev.no rfl (Ev.ret _)
  | true =>
  refine Ev.yes rfl ?_
  refine v_oB (kun os os' hos) ?_
  cases h6:decide (os=os') with
  | false=>exact Ev.no rfl (Ev.ret _)
  | true =>
  refine Ev.yes rfl ?_
  exact v_oB (kDv ks ks' hks H) (Ev.ret _)
theorem kkw:∀ (ks:List E),kff ks->∀ x∈ks,∀ y,Cal 16 [eV x,eV y] [] (RV (V.one (bX (kes x y))))
 | [],_,x,hx,_=>by cases hx
 | z :: r,hs,x,hx,y=>by
  rw [kff] at hs
  rcases List.mem_cons.1 hx with h | h
  · rw [h];exact knr z y hs.1
  · exact kkw r hs.2 x h y
end
mutual
theorem klL:∀ (a b:T),LenT a->Cal 42 [tV a,tV b] [] (RV (V.one (bX (kdM a b))))
 | .mk k l,.mk k' l',h=>by
  rw [LenT] at h
  obtain ⟨hls,hll⟩:=h
  have H:=kiw l hll
  rw [ktW]
  refine kIq _ _ _ _ ?_
  simp only [kIj]
  show Ev _ (RV (V.one (bX ((k==k')&&eqL kdM l l'))))
  cases h1:k==k' with
  | false=>exact Ev.no h1 (Ev.ret _)
  | true =>
  refine Ev.yes h1 ?_
  exact v_oB (kAu l l' hls H) (Ev.ret _)
theorem kiw:∀ (ks:List T),kfg ks->∀ x∈ks,∀ y,Cal 42 [tV x,tV y] [] (RV (V.one (bX (kdM x y))))
 | [],_,x,hx,_=>by cases hx
 | z :: r,hs,x,hx,y=>by
  rw [kfg] at hs
  rcases List.mem_cons.1 hx with h | h
  · rw [h];exact klL z y hs.1
  · exact kiw r hs.2 x h y
end
theorem kq1 (a b:Fld) (h:LenT a.typ):Cal 39 [fdV a,fdV b] [] (RV (V.one (bX (kfd a b)))):=by
 refine kIo _ _ _ _ _ _ _ _ _ _ ?_
 simp only [kIh]
 unfold kfd
 have h3:=kjn a.name b.name
 cases h4:decide (a.name=b.name) with
 | false=>exact Ev.no (h3.trans h4) (Ev.ret _)
 | true =>
 refine Ev.yes (h3.trans h4) ?_
 exact v_oB (klL a.typ b.typ h) (Ev.ret _)
theorem kx9 (a b:List Fld) (ha:a.length<=140737488351232) (H:∀ x∈a,∀ y,Cal 39 [fdV x,fdV y] [] (RV (V.one (bX (kfd x y))))) :
 Cal 38 [V.one (X.d (D.list 5 (Fld.rows a))),V.one (X.d (D.list 5 (Fld.rows b))),V.one (X.fn 39 [])] [] (RV (V.one (bX (eqL kfd a b)))):=by
 refine ktG _ _ ?_
 simp only [ktC,Fld.rows_len]
 by_cases h:a.length=b.length
 · refine Ev.no (kfY h) ?_
   simp only [kxi,Fld.rows_len]
   have:=ked kfd a b h ha (F:=fun m k n i=>kxc m (Ak k) n (Fld.rows b) (Fld.rows a) (Int.ofNat a.length) (Int.ofNat i)) (by
    simp only [ko3]
    exact Ev.no (kba _ _ (Nat.le_refl _)) (Ev.of fun m k n=>by rw [kxo])) (fun i hi r hr=>by
    simp only [ko3]
    refine Ev.yes (kaz i _ hi) ?_
    simp only [kxn,tn,Fld.rows_at a i hi,Fld.rows_at b i (show i < b.length by omega),Fld.row_eq,Fld.rows_len]
    refine Ev.yes (kak i _ hi) (Ev.yes (kak i _ (by omega)) ?_)
    refine v_oB (H a[i] (List.getElem_mem hi) b[i]) ?_
    cases kfd a[i] b[i] with
    | false=>exact Ev.yes rfl (Ev.ret _)
    | true =>
     refine Ev.no rfl ?_
     simp only [kxx,kap i (show i < 9223372036854775807 by omega)]
     exact hr) _ 0 (Nat.zero_le _) rfl
   rw [Bool.and_true] at this
   exact Ev.diag this
 · rw [keR _ _ _ h]
   exact Ev.yes (kiv h) (Ev.ret _)
theorem kuo (a b:Fnc) (h:LenFn a):Cal 41 [fncV a,fncV b] [] (RV (V.one (bX (kdN a b)))):=by
 refine kIp _ _ _ _ _ _ _ _ _ _ _ _ _ _ _ _ _ _ _ _ _ _ _ _ _ _ _ _ ?_
 simp only [kIi]
 unfold kdN
 have h3:=kjn a.name b.name
 cases h4:decide (a.name=b.name) with
 | false=>exact Ev.no (h3.trans h4) (Ev.ret _)
 | true =>
 refine Ev.yes (h3.trans h4) ?_
 refine v_oB (kx9 a.params b.params h.par fun x hx y=>kq1 x y (h.typ x hx)) ?_
 cases h5:eqL kfd a.params b.params with
 | false=>exact Ev.no rfl (Ev.ret _)
 | true =>
 refine Ev.yes rfl ?_
 refine v_oB (klL a.res b.res h.res) ?_
 cases h6:kdM a.res b.res with
 | false=>exact Ev.no rfl (Ev.ret _)
 | true =>
 refine Ev.yes rfl ?_
 exact v_oB (knr a.body b.body h.body) (Ev.ret _)
theorem C_fns (a b:List Fnc) (ha:a.length<=140737488351232) (H:∀ x∈a,∀ y,Cal 41 [fncV x,fncV y] [] (RV (V.one (bX (kdN x y))))) :
 Cal 40 [V.one (X.d (D.list 14 (Fnc.rows a))),V.one (X.d (D.list 14 (Fnc.rows b))),V.one (X.fn 41 [])] [] (RV (V.one (bX (eqL kdN a b)))):=by
 refine ktH _ _ ?_
 simp only [ktD,Fnc.rows_len]
 by_cases h:a.length=b.length
 · refine Ev.no (kfY h) ?_
   simp only [kxj,Fnc.rows_len]
   have:=ked kdN a b h ha (F:=fun m k n i=>kxd m (Ak k) n (Fnc.rows b) (Fnc.rows a) (Int.ofNat a.length) (Int.ofNat i)) (by
    simp only [ko4]
    exact Ev.no (kba _ _ (Nat.le_refl _)) (Ev.of fun m k n=>by rw [kxq])) (fun i hi r hr=>by
    simp only [ko4]
    refine Ev.yes (kaz i _ hi) ?_
    simp only [kxp,tn,Fnc.rows_at a i hi,Fnc.rows_at b i (show i < b.length by omega),Fnc.row_eq,Fnc.rows_len]
    refine Ev.yes (kak i _ hi) (Ev.yes (kak i _ (by omega)) ?_)
    refine v_oB (H a[i] (List.getElem_mem hi) b[i]) ?_
    cases kdN a[i] b[i] with
    | false=>exact Ev.yes rfl (Ev.ret _)
    | true =>
     refine Ev.no rfl ?_
     simp only [kxy,kap i (show i < 9223372036854775807 by omega)]
     exact hr) _ 0 (Nat.zero_le _) rfl
   rw [Bool.and_true] at this
   exact Ev.diag this
 · rw [keR _ _ _ h]
   exact Ev.yes (kiv h) (Ev.ret _)
theorem kAv (a b:Pg) (h:LenP a):Cal 13 [pV a,pV b] [] (RV (V.one (bX (ktX a b)))):=by
 refine kIk _ _ _ _ _ _ _ _ _ _ _ _ _ _ _ _ _ _ _ _ ?_
 simp only [kId]
 unfold ktX
 refine v_oB (kx9 a.inputs b.inputs h.inl fun x hx y=>kq1 x y (h.inp x hx)) ?_
 cases h5:eqL kfd a.inputs b.inputs with
 | false=>exact Ev.no rfl (Ev.ret _)
 | true =>
 refine Ev.yes rfl ?_
 refine v_oB (C_fns a.funs b.funs h.fl fun x hx y=>kuo x y (h.fn x hx)) ?_
 cases h6:eqL kdN a.funs b.funs with
 | false=>exact Ev.no rfl (Ev.ret _)
 | true =>
 refine Ev.yes rfl ?_
 exact v_oB (knr a.query b.query h.query) (Ev.ret _)
end Go.Proofs.YtaphnbaiamnfpaaGreatDoor.Ps
namespace Go.Proofs.YtaphnbaiamnfpaaGreatDoor.Px
set_option linter.unusedVariables false
set_option linter.unusedSimpArgs false
theorem kix:∀ (d:Nat) (e:E),kaH d e=true->kfW e d=none
 | 0,.mk ..,h=>by rw [kaH] at h;cases h
 | d+1,.mk k n s ns os ks a b,h=>by
  rw [kaH,Bool.and_eq_true] at h
  have hr:=kcs h.2
  rw [kis]
  have hs:∀ l:List E,(∀ x∈l,kfW x d=none)->kfl l d=none:=fun l=>by
   induction l with
   | nil=>intro _;rw [kfl]
   | cons x r ih=>intro H;rw [kfl,H x (by simp)];exact ih fun y hy=>H y (by simp [hy])
  exact hs ks fun x hx=>kix d x (hr x hx)
theorem khw {e:E} (h:kaH 40 e=true):limE e=none:=by
 unfold limE;rw [kix 40 e h];rfl
theorem khx:∀ (d:Nat) (t:T),d<=40->ka8 d t=true->0<=kfX t∧kfX t<=(d:Int)
 | 0,.mk ..,_,h=>by rw [ka8] at h;cases h
 | d+1,.mk k l,hd,h=>by
  rw [ka8,Bool.and_eq_true] at h
  have hr:=kct h.2
  have hs:∀ (l:List T) (a:Int),(∀ x∈l,0<=kfX x∧kfX x<=(d:Int))->0<=a->a<=d->0<=kcR l a∧kcR l a<=(d:Int):=fun l=>by
   induction l with
   | nil=>intro a _ h0 h1;rw [kcR];exact ⟨h0,h1⟩
   | cons x r ih =>
    intro a H h0 h1
    rw [kcR]
    have hx:=H x (by simp)
    refine ih _ (fun y hy=>H y (by simp [hy])) ?_ ?_<;>(unfold big;split<;>omega)
  have:=hs l 0 (fun x hx=>khx d x (by omega) (hr x hx)) (by omega) (by omega)
  rw [knm]
  show 0<=IntKind.wrap .i64 (kcR l 0+1)∧IntKind.wrap .i64 (kcR l 0+1)<=_
  rw [Go.Proofs.YtaphnbaiamnfpaaGreatDoor.Ps.wrap_in _ (by omega) (by omega)]
  omega
theorem kiy {t:T} (h:ka8 40 t=true) (a b:Int):limT t a b=none:=by
 have:=khx 40 t (by omega) h
 unfold limT
 rw [if_neg (by omega)]
theorem keV:∀ l:List Fld,l.all kbu=true->kfm l=none
 | [],_=>by rw [kfm]
 | f :: r,h=>by
  rw [List.all_cons,Bool.and_eq_true] at h
  have h1:=h.1
  unfold kbu at h1
  rw [Bool.and_eq_true] at h1
  rw [kfm,kiy h1.2]
  exact keV r h.2
theorem kgs:∀ l:List Fnc,l.all kby=true->kdz l=none
 | [],_=>by rw [kdz]
 | f :: r,h=>by
  rw [List.all_cons,Bool.and_eq_true] at h
  have h1:=h.1
  unfold kby at h1
  simp only [Bool.and_eq_true] at h1
  rw [kdz]
  unfold kuj
  rw [keV _ h1.1.1.1,kiy h1.1.2,khw h1.2]
  exact kgs r h.2
theorem kpj {p:Pg} (h:kbT p=true):limP p=none:=by
 unfold kbT at h
 simp only [Bool.and_eq_true] at h
 unfold limP
 rw [keV _ h.1.1,kgs _ h.1.2,khw h.2]
end Go.Proofs.YtaphnbaiamnfpaaGreatDoor.Px
namespace Go.Proofs.YtaphnbaiamnfpaaGreatDoor.Ps
set_option linter.unusedVariables false
set_option linter.unusedSimpArgs false
open Go Go.RowKit Px
open Lx (Tok scan)
theorem kDw {e:E} (h:kaH 40 e=true) (hl:(tE e).length<=20000):∃ x,sE x=sE e∧kqV (tE e)=(x,okF)∧wE x<=20001:=by
 obtain ⟨ts,h1,h2⟩:=km0 (sc_E e (kde 40 e h)) 1 1
 have h1:scan (tE e) 1 1=.ok ts:=h1
 have hfew:=kec hl h1
 obtain ⟨x,hx,hp,hk⟩:=kC4 (kde 40 e h) hfew.1.good h2
 have hr:kaH 40 x=true:=(kdh 40 x e hx).trans h
 have hw:khu ts=.ok x ((tks (pE e)).length):=by
  have h2:khu ts=kdE (pw ts .expr 0) fun e j=>run (pw ts) ts (.knd 5 (.ret e) .fail) j:=kai _ _ _
  rw [h2,hp]
  show run (pw ts) ts (.knd 5 (.ret x) .fail) _=_
  rw [run,hk]
  rfl
 refine ⟨x,hx,?_,?_⟩
 · unfold kqV
   rw [if_neg (by omega),h1]
   show kpi ts=_
   unfold kpi
   rw [hw]
   simp only
   rw [khw hr]
 · have h3:=kzD hp
   have h4:=(kbf hfew.1.good hfew.2.2 hp).2
   have h6:wE x+0<=0+(tks (pE e)).length:=h3
   have h5:=(kc8 _ _ 1 1 ts (Nat.lt_succ_self _) h1).few
   omega
theorem kDx {p:Pg} (h:kbT p=true) (hl:(tP p).length<=20000):∃ x,sP x=sP p∧kqW (tP p)=(x,okF):=by
 obtain ⟨ts,h1,h2⟩:=km0 (sc_P h) 1 1
 rw [tP_eq] at h1
 have hfew:=kec hl h1
 obtain ⟨x,hx,hp,hk⟩:=kC5 h hfew.1.good h2
 have hr:kbT x=true:=(klw hx).trans h
 have hw:khv ts=.ok x ((tks (pP p)).length):=by
  have h2:khv ts=kdE (pw ts .program 0) fun e j=>run (pw ts) ts (.knd 5 (.ret e) .fail) j:=kai _ _ _
  rw [h2,hp]
  show run (pw ts) ts (.knd 5 (.ret x) .fail) _=_
  rw [run,hk]
  rfl
 refine ⟨x,hx,?_⟩
 unfold kqW
 rw [if_neg (by omega),h1]
 show kiu ts=_
 unfold kiu
 rw [hw]
 simp only
 rw [kpj hr]
theorem kAw (p:Pg) (h:LenP p):Cal 5 [pV p] [] (YB true):=by
 refine call5 _ _ _ _ _ _ _ _ _ _ ?_
 simp only [e5_eq]
 obtain ⟨b,hb,hm⟩:=kAf 2000 (by decide) p h
 refine v_oB hb ?_
 cases b with
 | false=>exact Ev.yes rfl (v_oB kgK (Ev.ret _))
 | true =>
  refine Ev.no rfl ?_
  have m:=kAg (by decide) (hm rfl)
  simp only [kCl]
  refine kn8 (kAh p h m) ?_
  unfold prP
  cases hr:kbT p with
  | false =>
   rw [if_neg (by decide)]
   refine Ev.yes rfl (Ev.yes rfl (v_oB (kjh p h) ?_))
   rw [hr]
   exact Ev.yes rfl (v_oB kgK (Ev.ret _))
  | true =>
   rw [if_pos rfl]
   unfold trim
   by_cases hl:20000 < (tP p).length
   · rw [if_pos hl]
     refine Ev.yes rfl (Ev.yes rfl (v_oB (kjh p h) ?_))
     rw [hr]
     exact Ev.yes rfl (v_oB kgK (Ev.ret _))
   · rw [if_neg hl]
     refine Ev.no rfl ?_
     have hrq:kaH 40 p.query=true:=by
      unfold kbT at hr
      simp only [Bool.and_eq_true] at hr
      exact hr.2
     have hq:(tE p.query).length<=20000:=by
      have:(tE p.query).length<=(tP p).length:=by simp only [tP,List.length_append];omega
      omega
     obtain ⟨x,hx,hp⟩:=kDx hr (by omega)
     obtain ⟨y,hy,he,hw⟩:=kDw hrq hq
     have hpr:pr p.query=(tE p.query,0):=by unfold pr;rw [if_pos hrq,if_neg (by omega)]
     have e1:=kAa p.query h.query
     rw [hpr] at e1
     have c1:=kqX (tP p)
     rw [hp] at c1
     have c2:=kDt (tE p.query)
     rw [he] at c2
     have s1:=kAv p x h
     rw [kln hx.symm] at s1
     have s2:=knr y p.query (kp3 y (by omega))
     rw [kdg _ _ hy] at s2
     simp only [kCm]
     refine kca c1 (kn8 e1 (kdu c2 ?_))
     refine Ev.yes rfl (v_oB s1 (Ev.yes rfl (Ev.yes rfl (Ev.yes rfl (v_oB s2 (Ev.yes rfl (v_oB kgK (Ev.ret _))))))))
end Go.Proofs.YtaphnbaiamnfpaaGreatDoor.Ps
