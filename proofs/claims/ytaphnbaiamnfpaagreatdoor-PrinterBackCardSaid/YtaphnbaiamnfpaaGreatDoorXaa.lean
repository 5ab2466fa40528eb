/- The plain scanner over lists of bytes, and what is true of it: no program in sight. Syntax trees; the grammar as readers of a small language; what reading with a given fuel does. Reading without fuel: the readings' one meaning. More on the plain scanner. The plain scanner over a text that is cut off or goes on otherwise. Scanning a text after a line's end: the plain law. Lexing the text of tokens: the plain law. Where a token stands in its text, and that the text ahead of it may go on otherwise. Readings of two texts: of texts that begin alike; of texts alike but for places. Types, expressions and programs as pieces of text: tokens and white space. The text of pieces that stand well together: its tokens are theirs. The text of an expression, a type, a program: its tokens are its pieces'. Names: what the lexer tells of a text that is one. Trees alike; trees whose lists are no longer than the form's own reach (pure). The text of an expression, said with bytes. How long a text is, at most; it is not empty. The text of types and of a program, said with bytes. How long the texts of types and programs are, at most. What is right does not hang on places. The tokens of an expression are read as the expression. Every expression that can be told is read from its tokens. Every expression that can be told is read from its tokens: operators, and what has no closing token. Every type and program that can be told is read from its tokens. -/
import Derived.Lib.Index
import Derived.Lib.IndexMore
import Derived.Lib.Join
import Derived.Lib.ItoaNum
namespace Go.Proofs.YtaphnbaiamnfpaaGreatDoor.Lx
open Go
def sm (c:UInt8):Bool:=decide (97<=c.toNat)&&decide (c.toNat<=122)
def dg (c:UInt8):Bool:=decide (48<=c.toNat)&&decide (c.toNat<=57)
def nm (c:UInt8):Bool:=sm c || dg c || decide (c.toNat=95)
def ws (c:UInt8):Bool:=decide (c.toNat=32) || decide (c.toNat=9) || decide (c.toNat=13)
def nnl (c:UInt8):Bool:=!decide (c.toNat=10)
def wordList:List (List UInt8):=[[97,110,100],[98,111,111,108],[99,97,115,101],[101,108,115,101],[102,97,108,115,101],[102,108,105,112],[102,117,110],[105,102],[105,110],[105,110,112,117,116],[105,110,116],[108,101,116],[110,111,116],[111,98,115,101,114,118,101],[111,102],[111,114],[112,105,99,107],[114,97,110,103,101],[115,99,111,114,101],[116,104,101,110],[116,114,117,101]]
def has (ws:List (List UInt8)) (w:List UInt8):Bool:=ws.contains w
def hasB (l:List UInt8) (c:UInt8):Bool:=l.contains c
def isWord (w:List UInt8):Bool:=has wordList w
def val (w:List UInt8):Nat:=w.foldl (fun a c=>a*10+(c.toNat - 48)) 0
def ones:List UInt8:=[40,41,91,93,123,125,44,59,58,124,43,45,42,47,37,61,60]
def twos:List (List UInt8):=[[61,61],[61,62],[60,61],[58,58]]
def sgn (l:List UInt8):List UInt8:=if has twos (l.take 2) then l.take 2 else if hasB ones (l.headD 0) then l.take 1 else []
inductive R where
 | ok (kind:Int) (text:List UInt8) (n:Int)
 | bad (e:Int) (text:List UInt8)
def tok (l:List UInt8):R :=
 if sm (l.headD 0) then
  (if 24 < (l.takeWhile nm).length then .bad 2 (l.takeWhile nm) else if isWord (l.takeWhile nm) then .ok 2 (l.takeWhile nm) 0 else .ok 1 (l.takeWhile nm) 0)
 else if dg (l.headD 0) then
  (if 2147483647 < val (l.takeWhile dg) then .bad 2 (l.takeWhile dg) else .ok 3 (l.takeWhile dg) (val (l.takeWhile dg)))
 else if sgn l=[] then .bad 10 (l.take 1) else .ok 4 (sgn l) 0
structure Tok where
 kind:Int
 text:List UInt8
 n:Int
 line:Int
 col:Int
deriving DecidableEq
structure Flt where
 e:Int
 text:List UInt8
 line:Int
 col:Int
deriving DecidableEq
def scan:List UInt8->Int->Int->Except Flt (List Tok)
 | [],line,col=>.ok [⟨5,[],0,line,col⟩]
 | c :: t,line,col =>
  if c.toNat=10 then scan t (line+1) 1
  else if ws c then scan t line (col+1)
  else if c.toNat=35 then scan (t.dropWhile nnl) line (col+1+(t.takeWhile nnl).length)
  else match tok (c :: t) with
   | .bad e w=>.error ⟨e,w,line,col⟩
   | .ok k w n=>match scan (t.drop (w.length - 1)) line (col+w.length) with
    | .error f=>.error f
    | .ok l=>.ok (⟨k,w,n,line,col⟩ :: l)
termination_by l=>l.length
decreasing_by
 all_goals simp only [List.length_cons,List.length_drop]
 all_goals (try have:=(List.dropWhile_sublist (p:=nnl) (l:=t)).length_le)
 all_goals omega
theorem kcd (p:UInt8->Bool) (l:List UInt8):l.take (l.takeWhile p).length=l.takeWhile p:=by
 induction l with
 | nil=>rfl
 | cons c t ih =>
  by_cases h:p c=true
  · rw [List.takeWhile_cons_of_pos h];simp [ih]
  · rw [List.takeWhile_cons_of_neg h];rfl
theorem kzw {c:UInt8} (h:sm c=true):nm c=true:=by simp [nm,h]
theorem kmT (l:List UInt8):sgn l=l.take (sgn l).length:=by
 unfold sgn
 split
 · simp
 · split
   · simp
   · rfl
theorem tok_take {l:List UInt8} {k:Int} {w:List UInt8} {n:Int} (h:tok l=.ok k w n):w=l.take w.length∧w ≠ []:=by
 unfold tok at h
 split at h
 · rename_i hs
   have hne:l.takeWhile nm ≠ []:=by
    cases l with
    | nil=>exact absurd hs (by decide)
    | cons c t=>rw [List.takeWhile_cons_of_pos (show nm c=true from kzw hs)];simp
   split at h
   · cases h
   · split at h<;>(cases h;exact ⟨(kcd nm l).symm,hne⟩)
 · split at h
   · rename_i hs
     have hne:l.takeWhile dg ≠ []:=by
      cases l with
      | nil=>exact absurd hs (by decide)
      | cons c t=>rw [List.takeWhile_cons_of_pos (show dg c=true from hs)];simp
     split at h
     · cases h
     · cases h;exact ⟨(kcd dg l).symm,hne⟩
   · split at h
     · cases h
     · rename_i hs
       cases h;exact ⟨kmT l,hs⟩
theorem contains_cons (b:UInt8) (l sub:List UInt8):Lib.contains (b :: l) sub=(sub.isPrefixOf (b :: l) || Lib.contains l sub):=by
 unfold Lib.contains
 have h:=Lib.index_ge l sub
 rw [Lib.index]
 by_cases hp:sub.isPrefixOf (b :: l)=true
 · simp [hp]
 · have hp':sub.isPrefixOf (b :: l)=false:=Bool.eq_false_iff.2 hp
   rw [if_neg hp,hp',Bool.false_or]
   by_cases he:(Lib.index l sub==-1)=true
   · rw [if_pos he]
     have:Lib.index l sub=-1:=by simpa using he
     rw [this]
   · rw [if_neg he]
     have:Lib.index l sub ≠ -1:=by simpa using he
     by_cases h0:0<=Lib.index l sub
     · rw [decide_eq_true h0,decide_eq_true (by omega)]
     · omega
theorem kg6:∀ (w v rest:List UInt8),(∀ c∈w,c ≠ 32)->(∀ c∈v,c ≠ 32)->(w++[32]).isPrefixOf (v++32 :: rest)=(v==w)
 | [],[],rest,_,_=>by simp
 | [],c :: v,rest,_,hv=>by
  have hc:c ≠ 32:=hv c (by simp)
  have:((32:UInt8)==c)=false:=by simpa using fun e=>hc e.symm
  simp [List.isPrefixOf,this]
 | c :: w,[],rest,hw,_=>by
  have hc:c ≠ 32:=hw c (by simp)
  have:(c==(32:UInt8))=false:=by simpa using hc
  simp [List.isPrefixOf,this]
 | c :: w,d :: v,rest,hw,hv=>by
  have ih:=kg6 w v rest (fun x hx=>hw x (by simp [hx])) (fun x hx=>hv x (by simp [hx]))
  show ((c==d)&&(w++[32]).isPrefixOf (v++32 :: rest))=(d==c&&v==w)
  rw [ih,Bool.beq_comm (a:=c)]
theorem ke6 (sub:List UInt8):∀ (v l:List UInt8),(∀ c∈v,c ≠ 32)->Lib.contains (v++l) (32 :: sub)=Lib.contains l (32 :: sub)
 | [],_,_=>rfl
 | c :: v,l,hv=>by
  have hc:c ≠ 32:=hv c (by simp)
  have h1:((32:UInt8)==c)=false:=by simpa using fun e=>hc e.symm
  show Lib.contains (c :: (v++l)) (32 :: sub)=_
  rw [contains_cons,ke6 sub v l (fun x hx=>hv x (by simp [hx]))]
  simp [List.isPrefixOf,h1]
theorem kiW (w v rest:List UInt8) (hw:∀ c∈w,c ≠ 32) (hv:∀ c∈v,c ≠ 32) :
 Lib.contains (32 :: (v++32 :: rest)) (32 :: (w++[32]))=(v==w || Lib.contains (32 :: rest) (32 :: (w++[32]))):=by
 rw [contains_cons,ke6 _ v _ hv]
 congr 1
 show ((32:UInt8)==32&&(w++[32]).isPrefixOf (v++32 :: rest))=(v==w)
 rw [kg6 w v rest hw hv]
 rfl
def spaced:List (List UInt8)->List UInt8
 | []=>[32]
 | v :: r=>32 :: (v++spaced r)
theorem klk (r:List (List UInt8)):∃ t,spaced r=32 :: t:=by
 cases r<;>exact ⟨_,rfl⟩
theorem kdI (w:List UInt8) (hw:∀ c∈w,c ≠ 32) (hne:w ≠ []):∀ (ws:List (List UInt8)),(∀ v∈ws,∀ c∈v,c ≠ 32)->Lib.contains (spaced ws) (32 :: (w++[32]))=ws.contains w
 | [],_=>by
  show Lib.contains [32] _=_
  rw [contains_cons]
  cases w with
  | nil=>exact absurd rfl hne
  | cons a r=>cases r<;>rfl
 | v :: r,h=>by
  obtain ⟨t,ht⟩:=klk r
  have ih:=kdI w hw hne r (fun x hx=>h x (by simp [hx]))
  show Lib.contains (32 :: (v++spaced r)) _=_
  rw [ht,kiW w v t hw (h v (by simp)),<- ht,ih,List.contains_cons]
  congr 1
  exact Bool.beq_comm
theorem nm_ne {c:UInt8} (h:nm c=true):c ≠ 32:=by
 rintro rfl
 exact absurd h (by decide)
def kgF:List UInt8:=[32,97,110,100,32,98,111,111,108,32,99,97,115,101,32,101,108,115,101,32,102,97,108,115,101,32,102,108,105,112,32,102,117,110,32,105,102,32,105,110,32,105,110,112,117,116,32,105,110,116,32,108,101,116,32,110,111,116,32,111,98,115,101,114,118,101,32,111,102,32,111,114,32,112,105,99,107,32,114,97,110,103,101,32,115,99,111,114,101,32,116,104,101,110,32,116,114,117,101,32]
theorem kll:kgF=spaced wordList:=by decide
theorem kg7 (w:List UInt8) (hw:∀ c∈w,nm c=true) (hne:w ≠ []):Lib.contains kgF (32 :: (w++[32]))=isWord w:=by
 rw [kll]
 exact kdI w (fun c hc=>nm_ne (hw c hc)) hne wordList (by decide)
theorem val_snoc (w:List UInt8) (c:UInt8):val (w++[c])=val w*10+(c.toNat - 48):=by
 unfold val
 rw [List.foldl_append]
 rfl
theorem has_yes {a x:List UInt8} (r:List (List UInt8)) (h:x=a):has (a :: r) x=true:=by unfold has;subst h;simp
theorem has_no {a x:List UInt8} (r:List (List UInt8)) (h:x ≠ a):has (a :: r) x=has r x:=by
 unfold has
 rw [List.contains_cons,beq_eq_false_iff_ne.2 h,Bool.false_or]
theorem ktK {l:List UInt8} {c:UInt8}:hasB l c=true ↔ c∈l:=List.contains_iff_mem
theorem kpU (b:UInt8) (l:List UInt8) (c:UInt8):hasB (b :: l) c=(c==b || hasB l c):=List.contains_cons
theorem ke7:∀ (l:List UInt8) (c:UInt8),Lib.indexByte l c ≥ 0 ↔ hasB l c=true
 | [],c=>by simp [Lib.indexByte,hasB]
 | b :: l,c=>by
  have ih:=ke7 l c
  have hge:=Lib.indexByte_ge l c
  rw [Lib.indexByte,kpU]
  by_cases h:(b==c)=true
  · have h':(c==b)=true:=by rw [Bool.beq_comm];exact h
    rw [if_pos h,h'];simp
  · have h':(c==b)=false:=by rw [Bool.beq_comm];simpa using h
    rw [if_neg h,h',Bool.false_or,<- ih]
    by_cases h2:(Lib.indexByte l c==-1)=true
    · rw [if_pos h2]
      have:Lib.indexByte l c=-1:=by simpa using h2
      omega
    · rw [if_neg h2]
      have:Lib.indexByte l c ≠ -1:=by simpa using h2
      omega
end Go.Proofs.YtaphnbaiamnfpaaGreatDoor.Lx
namespace Go.Proofs.YtaphnbaiamnfpaaGreatDoor.Px
set_option linter.unusedVariables false
set_option linter.unusedSimpArgs false
open Lx (Tok)
inductive T where
 | mk (k:Int) (l:List T)
deriving Inhabited
inductive E where
 | mk (k n:Int) (name:List UInt8) (names:List (List UInt8)) (odds:List Int) (kids:List E) (line col:Int)
deriving Inhabited
structure Fld where
 name:List UInt8
 typ:T
 line:Int
 col:Int
deriving Inhabited
structure Fnc where
 name:List UInt8
 params:List Fld
 res:T
 body:E
 line:Int
 col:Int
deriving Inhabited
structure Pg where
 inputs:List Fld
 funs:List Fnc
 query:E
deriving Inhabited
def T.k:T->Int | .mk k _=>k
def T.l:T->List T | .mk _ l=>l
def E.k:E->Int | .mk k _ _ _ _ _ _ _=>k
def E.n:E->Int | .mk _ n _ _ _ _ _ _=>n
def E.name:E->List UInt8 | .mk _ _ s _ _ _ _ _=>s
def E.names:E->List (List UInt8) | .mk _ _ _ l _ _ _ _=>l
def E.odds:E->List Int | .mk _ _ _ _ o _ _ _=>o
def E.kids:E->List E | .mk _ _ _ _ _ l _ _=>l
def E.line:E->Int | .mk _ _ _ _ _ _ a _=>a
def E.col:E->Int | .mk _ _ _ _ _ _ _ b=>b
abbrev kpV:List UInt8:=[98,111,111,108]
abbrev wInt:List UInt8:=[105,110,116]
abbrev wLet:List UInt8:=[108,101,116]
abbrev wIf:List UInt8:=[105,102]
abbrev kgB:List UInt8:=[99,97,115,101]
abbrev kbK:List UInt8:=[111,98,115,101,114,118,101]
abbrev kdw:List UInt8:=[115,99,111,114,101]
abbrev wIn:List UInt8:=[105,110]
abbrev kj7:List UInt8:=[116,104,101,110]
abbrev kiX:List UInt8:=[101,108,115,101]
abbrev wOf:List UInt8:=[111,102]
abbrev wOr:List UInt8:=[111,114]
abbrev wAnd:List UInt8:=[97,110,100]
abbrev wNot:List UInt8:=[110,111,116]
abbrev wNeg:List UInt8:=[110,101,103]
abbrev kgC:List UInt8:=[116,114,117,101]
abbrev kdx:List UInt8:=[102,97,108,115,101]
abbrev kj8:List UInt8:=[112,105,99,107]
abbrev kj9:List UInt8:=[102,108,105,112]
abbrev kgn:List UInt8:=[114,97,110,103,101]
abbrev kdy:List UInt8:=[105,110,112,117,116]
abbrev wFun:List UInt8:=[102,117,110]
abbrev wLp:List UInt8:=[40]
abbrev wRp:List UInt8:=[41]
abbrev wLb:List UInt8:=[91]
abbrev wRb:List UInt8:=[93]
abbrev wLc:List UInt8:=[123]
abbrev wRc:List UInt8:=[125]
abbrev wCm:List UInt8:=[44]
abbrev wSc:List UInt8:=[59]
abbrev wCl:List UInt8:=[58]
abbrev wBar:List UInt8:=[124]
abbrev wAr:List UInt8:=[61,62]
abbrev wEq:List UInt8:=[61]
abbrev kia:List UInt8:=[61,61]
abbrev wLt:List UInt8:=[60]
abbrev wLe:List UInt8:=[60,61]
abbrev wCc:List UInt8:=[58,58]
abbrev wPl:List UInt8:=[43]
abbrev wMi:List UInt8:=[45]
abbrev wTi:List UInt8:=[42]
abbrev wSl:List UInt8:=[47]
abbrev wPc:List UInt8:=[37]
inductive NT where
 | typ | typs | field | fields | fun_ | expr | names | level (n:Nat) | loop (n:Nat) (left:E) | unary | atom | list (e:List UInt8) | rest (e:List UInt8) | pick | share | bound | inputs | funs | program
abbrev Ret:NT->Type
 | .typ=>T
 | .typs=>List T
 | .field=>Fld
 | .fields=>List Fld
 | .fun_=>Fnc
 | .names=>List (List UInt8)
 | .list _=>List E
 | .rest _=>List E
 | .pick=>List Int × List E
 | .share=>List Int
 | .bound=>Int
 | .inputs=>List Fld
 | .funs=>List Fnc
 | .program=>Pg
 | .expr=>E
 | .level _=>E
 | .loop _ _=>E
 | .unary=>E
 | .atom=>E
inductive Pm (α:Type) where
 | ret (a:α)
 | fail
 | tst (s:List UInt8) (y n:Pm α)
 | knd (k:Int) (y n:Pm α)
 | look (f:Tok->Pm α)
 | next (m:Pm α)
 | call (q:NT) (f:Ret q->Pm α)
namespace Pm
variable {α:Type}
abbrev take (s:List UInt8) (y n:Pm α):Pm α:=.tst s (.next y) n
abbrev want (s:List UInt8) (m:Pm α):Pm α:=.tst s (.next m) .fail
abbrev kind (k:Int) (f:Tok->Pm α):Pm α:=.knd k (.look fun t=>.next (f t)) .fail
abbrev any (l:List (List UInt8)) (y n:Pm α):Pm α:=l.foldr (fun s acc=>.tst s y acc) n
end Pm
open Pm
def kbk:Nat->List (List UInt8)
 | 0=>[wOr]
 | 1=>[wAnd]
 | 2=>[kia,wLt,wLe]
 | 3=>[wCc]
 | 4=>[wPl,wMi]
 | 5=>[wTi,wSl,wPc]
 | _=>[]
def lets (t:Tok) (ns:List (List UInt8)):Pm E :=
 want wEq (.call .expr fun x=>want wIn (.call .expr fun y=>.ret (.mk 8 0 [] ns [] [x,y] t.line t.col)))
def kbO (t:Tok) (ps:List Fld):Pm Fnc :=
 want wCl (.call .typ fun ty=>want wEq (.call .expr fun b=>want wSc (.ret ⟨t.text,ps,ty,b,t.line,t.col⟩)))
abbrev kxG (t:Tok) (x:E):Pm E :=
 .call .expr fun y=>want wBar (kind 1 fun a=>want wCc (kind 1 fun b=>want wAr (.call .expr fun z=>.ret (E.mk 10 0 [] [a.text,b.text] [] [x,y,z] t.line t.col))))
abbrev caseK (t:Tok):Pm E:=.call .expr fun x=>want wOf (want wLb (want wRb (want wAr (kxG t x))))
def body:(q:NT)->Pm (Ret q)
 | .typ=>take kpV (.ret (T.mk 1 [])) (take wInt (.ret (T.mk 2 [])) (take wLb (.call .typ fun t=>want wRb (.ret (T.mk 4 [t])))
  (want wLp (.call .typ fun a=>want wCm (.call .typ fun b=>.call .typs fun r=>.ret (T.mk 3 (a :: b :: r)))))))
 | .typs=>take wCm (.call .typ fun a=>.call .typs fun r=>.ret (a :: r)) (want wRp (.ret []))
 | .field=>kind 1 fun t=>want wCl (.call .typ fun ty=>.ret ⟨t.text,ty,t.line,t.col⟩)
 | .fields=>take wCm (.call .field fun a=>.call .fields fun r=>.ret (a :: r)) (want wRp (.ret []))
 | .fun_=>kind 1 fun t=>want wLp (take wRp (kbO t []) (.call .field fun a=>.call .fields fun r=>kbO t (a :: r)))
 | .names=>take wCm (kind 1 fun a=>.call .names fun r=>.ret (a.text :: r)) (want wRp (.ret []))
 | .expr=>.look fun t =>
  take wLet (take wLp (kind 1 fun a=>want wCm (kind 1 fun b=>.call .names fun r=>lets t (a.text :: b.text :: r))) (kind 1 fun a=>lets t [a.text]))
  (take wIf (.call .expr fun x=>want kj7 (.call .expr fun y=>want kiX (.call .expr fun z=>.ret (E.mk 9 0 [] [] [] [x,y,z] t.line t.col))))
  (take kgB (caseK t)
  (take kbK (.call .expr fun x=>want wIn (.call .expr fun y=>.ret (E.mk 11 0 [] [] [] [x,y] t.line t.col)))
  (take kdw (.call .share fun o=>want wIn (.call .expr fun x=>.ret (E.mk 12 0 [] [] o [x] t.line t.col)))
  (.call (.level 0) .ret)))))
 | .level n=>match n with
  | 0=>.call (.level 1) fun l=>.call (.loop 0 l) .ret
  | 1=>.call (.level 2) fun l=>.call (.loop 1 l) .ret
  | 2=>.call (.level 3) fun l=>.call (.loop 2 l) .ret
  | 3=>.call (.level 4) fun l=>.call (.loop 3 l) .ret
  | 4=>.call (.level 5) fun l=>.call (.loop 4 l) .ret
  | 5=>.call (.level 6) fun l=>.call (.loop 5 l) .ret
  | _=>.call .unary .ret
 | .loop n left=>any (kbk n) (.look fun t=>.next (.call (.level (if n=3 then 3 else n+1)) fun r =>
  if n=2∨n=3 then .ret (E.mk 7 0 t.text [] [] [left,r] t.line t.col) else .call (.loop n (E.mk 7 0 t.text [] [] [left,r] t.line t.col)) .ret)) (.ret left)
 | .unary=>.look fun t=>take wNot (.call .unary fun x=>.ret (E.mk 7 0 wNot [] [] [x] t.line t.col)) (take wMi (.call .unary fun x=>.ret (E.mk 7 0 wNeg [] [] [x] t.line t.col)) (.call .atom .ret))
 | .atom=>.look fun t =>
  .knd 3 (.next (.ret (E.mk 1 t.n [] [] [] [] t.line t.col)))
  (.knd 1 (.next (take wLp (.call (.list wRp) fun ks=>.ret (E.mk 4 0 t.text [] [] ks t.line t.col)) (.ret (E.mk 3 0 t.text [] [] [] t.line t.col))))
  (take kgC (.ret (E.mk 2 1 [] [] [] [] t.line t.col))
  (take kdx (.ret (E.mk 2 0 [] [] [] [] t.line t.col))
  (take wLp (.call .expr fun a=>take wRp (.ret a) (want wCm (.call .expr fun b=>.call (.rest wRp) fun r=>.ret (E.mk 5 0 [] [] [] (a :: b :: r) t.line t.col))))
  (take wLb (.call (.list wRb) fun ks=>.ret (E.mk 6 0 [] [] [] ks t.line t.col))
  (take kj8 (want wLc (.call .pick fun p=>.ret (E.mk 13 0 [] [] p.1 p.2 t.line t.col)))
  (take kj9 (want wLp (.call .share fun o=>want wRp (.ret (E.mk 14 0 [] [] o [] t.line t.col))))
  (take kgn (want wLp (.call .bound fun a=>want wCm (.call .bound fun b=>want wRp (.ret (E.mk 15 0 [] [] [a,b] [] t.line t.col)))))
  .fail))))))))
 | .list e=>take e (.ret []) (.call .expr fun a=>.call (.rest e) fun r=>.ret (a :: r))
 | .rest e=>take wCm (.call .expr fun a=>.call (.rest e) fun r=>.ret (a :: r)) (want e (.ret []))
 | .pick=>kind 3 fun t=>want wCl (.call .expr fun x=>take wCm (.call .pick fun p=>.ret (t.n :: p.1,x :: p.2)) (want wRc (.ret ([t.n],[x]))))
 | .share=>kind 3 fun p=>want wSl (kind 3 fun q=>.ret [p.n,q.n])
 | .bound=>take wMi (kind 3 fun t=>.ret (-t.n)) (kind 3 fun t=>.ret t.n)
 | .inputs=>take kdy (.call .field fun a=>want wSc (.call .inputs fun r=>.ret (a :: r))) (.ret [])
 | .funs=>take wFun (.call .fun_ fun a=>.call .funs fun r=>.ret (a :: r)) (.ret [])
 | .program=>.call .inputs fun a=>.call .funs fun b=>.call .expr fun q=>.ret ⟨a,b,q⟩
inductive Rs (α:Type) where
 | ok (a:α) (i:Nat)
 | no (i:Nat)
 | out
def tk (l:List Tok) (i:Nat):Tok:=l.getD i ⟨0,[],0,0,0⟩
def isT (s:List UInt8) (t:Tok):Bool:=(t.kind==4 || t.kind==2)&&t.text==s
def run {α:Type} (P:(q:NT)->Nat->Rs (Ret q)) (l:List Tok):Pm α->Nat->Rs α
 | .ret a,i=>.ok a i
 | .fail,i=>.no i
 | .tst s y n,i=>bif isT s (tk l i) then run P l y i else run P l n i
 | .knd k y n,i=>bif (tk l i).kind==k then run P l y i else run P l n i
 | .look f,i=>run P l (f (tk l i)) i
 | .next m,i=>run P l m (i+1)
 | .call q f,i=>match P q i with
  | .ok a j=>run P l (f a) j
  | .no j=>.no j
  | .out=>.out
def parse (l:List Tok):Nat->(q:NT)->Nat->Rs (Ret q)
 | 0=>fun _ _=>.out
 | n+1=>fun q i=>run (parse l n) l (body q) i
inductive Adm (rank:NT->Nat) (r:Nat) {α:Type}:Bool->Bool->Pm α->Prop
 | ret (t c:Bool) (a:α):Adm rank r t c (.ret a)
 | fail (t c:Bool):Adm rank r t c .fail
 | tst (t c:Bool) (s:List UInt8) (y n:Pm α):Adm rank r true c y->Adm rank r t c n->Adm rank r t c (.tst s y n)
 | knd (t c:Bool) (k:Int) (y n:Pm α):k ≠ 5->k ≠ 0->Adm rank r true c y->Adm rank r t c n->Adm rank r t c (.knd k y n)
 | look (t c:Bool) (f:Tok->Pm α):(∀ x,Adm rank r t c (f x))->Adm rank r t c (.look f)
 | next (c:Bool) (m:Pm α):Adm rank r false true m->Adm rank r true c (.next m)
 | call (t c:Bool) (q:NT) (f:Ret q->Pm α):(c=true∨rank q < r)->(∀ a,Adm rank r false c (f a))->Adm rank r t c (.call q f)
def rank:NT->Nat
 | .program=>12
 | .list _=>11
 | .expr=>10
 | .level n=>match n with
  | 0=>9
  | 1=>8
  | 2=>7
  | 3=>6
  | 4=>5
  | 5=>4
  | _=>3
 | .unary=>2
 | .atom=>1
 | _=>0
theorem kpW {α:Type} {r:Nat} {t c:Bool} {y n:Pm α} (hy:Adm rank r true c y) (hn:Adm rank r t c n):∀ l:List (List UInt8),Adm rank r t c (any l y n)
 | []=>hn
 | s :: l=>.tst t c s y _ hy (kpW hy hn l)
theorem ktL {r:Nat} (t:Tok) (ns:List (List UInt8)):Adm rank r false true (lets t ns):=by
 unfold lets
 repeat' first | (exact .inl rfl) | (decide) | (intro _) | (constructor)
theorem kzx {r:Nat} (t:Tok) (ps:List Fld):Adm rank r false true (kbO t ps):=by
 unfold kbO
 repeat' first | (exact .inl rfl) | (decide) | (intro _) | (constructor)
theorem adm:∀ q:NT,Adm rank (rank q) false false (body q):=by
 intro q
 cases q with
 | level n =>
  match n with
  | 0 | 1 | 2 | 3 | 4 | 5 =>
   refine .call _ _ _ _ (.inr (by simp [rank])) fun l=>.call _ _ _ _ (.inr (by simp [rank])) fun r=>.ret _ _ _
  | n+6=>exact .call _ _ _ _ (.inr (show (2:Nat) < 3 by decide)) fun l=>.ret _ _ _
 | loop n left =>
  refine kpW ?_ (.ret _ _ _) _
  refine .look _ _ _ fun t=>.next _ _ (.call _ _ _ _ (.inl rfl) fun r=>?_)
  by_cases h:n=2∨n=3
  · rw [if_pos h];exact .ret _ _ _
  · rw [if_neg h];exact .call _ _ _ _ (.inl rfl) fun _=>.ret _ _ _
 | program =>
  exact .call _ _ _ _ (.inr (by decide)) fun _=>.call _ _ _ _ (.inr (by decide)) fun _=>.call _ _ _ _ (.inr (by decide)) fun _=>.ret _ _ _
 | _ =>
  unfold body
  repeat' first | (exact ktL _ _) | (exact kzx _ _) | (exact .inl rfl) | (exact .inr (by simp [rank])) | (decide) | (intro _) | (constructor)
structure GoodL (l:List Tok):Prop where
 last:∀ i,i < l.length->((tk l i).kind=5 ↔ i+1=l.length)
def Fine {α:Type} (l:List Tok) (i:Nat):Rs α->Prop
 | .ok _ j=>i<=j∧j < l.length
 | .no j=>i<=j∧j < l.length
 | .out=>True
theorem kiY {s:List UInt8} {t:Tok} (h:isT s t=true):t.kind ≠ 5:=by
 unfold isT at h
 rw [Bool.and_eq_true,Bool.or_eq_true,beq_iff_eq,beq_iff_eq] at h
 omega
theorem Fine.le {α:Type} {l:List Tok} {i j:Nat} {r:Rs α} (hij:i<=j) (h:Fine l j r):Fine l i r:=by
 cases r with
 | ok a m=>exact ⟨Nat.le_trans hij h.1,h.2⟩
 | no m=>exact ⟨Nat.le_trans hij h.1,h.2⟩
 | out=>trivial
theorem ktM {α:Type} {P:(q:NT)->Nat->Rs (Ret q)} {l:List Tok} (hl:GoodL l) (hP:∀ q i,i < l.length->Fine l i (P q i)) {r:Nat} {t c:Bool} {m:Pm α} (hm:Adm rank r t c m) :
 ∀ i,i < l.length->(t=true->i+1 < l.length)->Fine l i (run P l m i):=by
 induction hm with
 | ret t c a=>exact fun i hi _=>⟨Nat.le_refl _,hi⟩
 | fail t c=>exact fun i hi _=>⟨Nat.le_refl _,hi⟩
 | tst t c s y n _ _ hy hn =>
  intro i hi ht
  unfold run
  cases h:isT s (tk l i) with
  | true =>
   have:=kiY h
   have h2:=hl.last i hi
   exact hy i hi (fun _=>by have:¬ (i+1=l.length):=fun e=>this (h2.2 e);omega)
  | false=>exact hn i hi ht
 | knd t c k y n hk hk0 _ _ hy hn =>
  intro i hi ht
  unfold run
  cases h:(tk l i).kind==k with
  | true =>
   have h2:=hl.last i hi
   rw [beq_iff_eq] at h
   exact hy i hi (fun _=>by have:¬ (i+1=l.length):=fun e=>hk (h▸h2.2 e);omega)
  | false=>exact hn i hi ht
 | look t c f _ ih=>exact fun i hi ht=>ih (tk l i) i hi ht
 | next c m _ ih =>
  intro i hi ht
  exact (ih (i+1) (ht rfl) (fun h=>by cases h)).le (Nat.le_succ i)
 | call t c q f _ _ ih =>
  intro i hi ht
  unfold run
  have:=hP q i hi
  cases h:P q i with
  | ok a j =>
   rw [h] at this
   exact (ih a j this.2 (fun h=>by cases h)).le this.1
  | no j=>rw [h] at this;exact this
  | out=>trivial
theorem kfP {l:List Tok} (hl:GoodL l):∀ (n:Nat) (q:NT) (i:Nat),i < l.length->Fine l i (parse l n q i)
 | 0,q,i,hi=>trivial
 | n+1,q,i,hi=>ktM hl (kfP hl n) (adm q) i hi (fun h=>by cases h)
theorem ktN {α:Type} {P:(q:NT)->Nat->Rs (Ret q)} {l:List Tok} (hl:GoodL l) (hF:∀ q i,i < l.length->Fine l i (P q i)) {r N:Nat} {t c:Bool} {m:Pm α} (hm:Adm rank r t c m) (hr:r<=12)
 (hP:∀ q i,i < l.length->(l.length - i)*16+rank q < N->P q i ≠ .out) :
 ∀ i,i < l.length->(t=true->i+1 < l.length)->(c=false->(l.length - i)*16+r<=N)->(c=true->(l.length - i)*16+16<=N)->run P l m i ≠ .out:=by
 have rk:∀ q,rank q<=12:=fun q=>by
  cases q with
  | level n=>match n with
   | 0 | 1 | 2 | 3 | 4 | 5=>decide
   | n+6=>exact (by decide:(3:Nat)<=12)
  | _=>simp [rank]
 induction hm with
 | ret t c a=>exact fun i hi _ _ _ h=>by cases h
 | fail t c=>exact fun i hi _ _ _ h=>by cases h
 | tst t c s y n _ _ hy hn =>
  intro i hi ht h1 h2
  unfold run
  cases h:isT s (tk l i) with
  | true =>
   have:=kiY h
   have h3:=hl.last i hi
   exact hy i hi (fun _=>by have:¬ (i+1=l.length):=fun e=>this (h3.2 e);omega) h1 h2
  | false=>exact hn i hi ht h1 h2
 | knd t c k y n hk hk0 _ _ hy hn =>
  intro i hi ht h1 h2
  unfold run
  cases h:(tk l i).kind==k with
  | true =>
   have h3:=hl.last i hi
   rw [beq_iff_eq] at h
   exact hy i hi (fun _=>by have:¬ (i+1=l.length):=fun e=>hk (h▸h3.2 e);omega) h1 h2
  | false=>exact hn i hi ht h1 h2
 | look t c f _ ih=>exact fun i hi ht h1 h2=>ih (tk l i) i hi ht h1 h2
 | next c m _ ih =>
  intro i hi ht h1 h2
  have:=ht rfl
  refine ih (i+1) this (fun h=>by cases h) (fun h=>by cases h) (fun _=>?_)
  cases c with
  | false=>have:=h1 rfl;omega
  | true=>have:=h2 rfl;omega
 | call t c q f hq _ ih =>
  intro i hi ht h1 h2
  unfold run
  have hne:P q i ≠ .out:=hP q i hi (by
   have:=rk q
   cases c with
   | true=>have:=h2 rfl;omega
   | false =>
    have:=h1 rfl
    rcases hq with hq | hq
    · cases hq
    · omega)
  have hf:=hF q i hi
  cases h:P q i with
  | ok a j =>
   rw [h] at hf
   obtain ⟨h3,h4⟩:=hf
   exact ih a j h4 (fun h=>by cases h) (fun h=>by have:=h1 h;omega) (fun h=>by have:=h2 h;omega)
  | no j=>exact fun h=>by cases h
  | out=>exact absurd h hne
theorem kin {l:List Tok} (hl:GoodL l):∀ (N:Nat) (q:NT) (i:Nat),i < l.length->(l.length - i)*16+rank q < N->parse l N q i ≠ .out
 | 0,q,i,_,h=>by omega
 | N+1,q,i,hi,h=>by
  have rk:rank q<=12:=by
   cases q with
   | level n=>match n with
    | 0 | 1 | 2 | 3 | 4 | 5=>decide
    | n+6=>exact (by decide:(3:Nat)<=12)
   | _=>simp [rank]
  exact ktN hl (kfP hl N) (adm q) rk (kin hl N) i hi (fun h=>by cases h) (fun _=>by omega) (fun h=>by cases h)
end Go.Proofs.YtaphnbaiamnfpaaGreatDoor.Px
namespace Go.Proofs.YtaphnbaiamnfpaaGreatDoor.Px
set_option linter.unusedVariables false
set_option linter.unusedSimpArgs false
open Lx (Tok)
open Pm
def kdE {α β:Type} (r:Rs β) (g:β->Nat->Rs α):Rs α :=
 match r with
 | .ok a j=>g a j
 | .no j=>.no j
 | .out=>.out
def Pm.bind {α β:Type}:Pm α->(α->Pm β)->Pm β
 | .ret a,f=>f a
 | .fail,f=>.fail
 | .tst s y n,f=>.tst s (y.bind f) (n.bind f)
 | .knd k y n,f=>.knd k (y.bind f) (n.bind f)
 | .look g,f=>.look fun t=>(g t).bind f
 | .next m,f=>.next (m.bind f)
 | .call q g,f=>.call q fun a=>(g a).bind f
section
variable {α β:Type} {P P':(q:NT)->Nat->Rs (Ret q)} {l:List Tok}
theorem kai (q:NT) (f:Ret q->Pm α) (i:Nat):run P l (.call q f) i=kdE (P q i) fun a j=>run P l (f a) j:=by
 rw [run]
 unfold kdE
 cases P q i<;>rfl
theorem run_bind (f:α->Pm β):∀ (m:Pm α) (i:Nat),run P l (m.bind f) i=kdE (run P l m i) fun a j=>run P l (f a) j
 | .ret a,i=>rfl
 | .fail,i=>rfl
 | .tst s y n,i=>by
  rw [Pm.bind,run,run]
  cases isT s (tk l i)
  · exact run_bind f n i
  · exact run_bind f y i
 | .knd k y n,i=>by
  rw [Pm.bind,run,run]
  cases (tk l i).kind==k
  · exact run_bind f n i
  · exact run_bind f y i
 | .look g,i=>by rw [Pm.bind,run,run];exact run_bind f (g (tk l i)) i
 | .next m,i=>by rw [Pm.bind,run,run];exact run_bind f m (i+1)
 | .call q g,i=>by
  rw [Pm.bind,kai,kai]
  cases P q i with
  | ok a j=>exact run_bind f (g a) j
  | no j=>rfl
  | out=>rfl
theorem kcK (h:∀ q i,P q i ≠ .out->P' q i=P q i):∀ (m:Pm α) (i:Nat),run P l m i ≠ .out->run P' l m i=run P l m i
 | .ret a,i,_=>rfl
 | .fail,i,_=>rfl
 | .tst s y n,i,hr=>by
  rw [run] at hr ⊢
  rw [run]
  cases hq:isT s (tk l i)
  · rw [hq] at hr;exact kcK h n i hr
  · rw [hq] at hr;exact kcK h y i hr
 | .knd k y n,i,hr=>by
  rw [run] at hr ⊢
  rw [run]
  cases hq:(tk l i).kind==k
  · rw [hq] at hr;exact kcK h n i hr
  · rw [hq] at hr;exact kcK h y i hr
 | .look g,i,hr=>by rw [run] at hr ⊢;rw [run];exact kcK h (g (tk l i)) i hr
 | .next m,i,hr=>by rw [run] at hr ⊢;rw [run];exact kcK h m (i+1) hr
 | .call q g,i,hr=>by
  rw [kai] at hr ⊢
  rw [kai]
  have hne:P q i ≠ .out:=fun e=>by rw [e] at hr;exact hr rfl
  rw [h q i hne]
  cases hq:P q i with
  | ok a j=>rw [hq] at hr;exact kcK h (g a) j hr
  | no j=>rfl
  | out=>rfl
end
theorem kio (l:List Tok):∀ (n:Nat) (q:NT) (i:Nat),parse l n q i ≠ .out->parse l (n+1) q i=parse l n q i
 | 0,q,i,h=>absurd rfl h
 | n+1,q,i,h=>kcK (kio l n) (body q) i h
def pw (l:List Tok):(q:NT)->Nat->Rs (Ret q):=parse l (l.length*16+13)
theorem kzy (q:NT):rank q<=12:=by
 cases q with
 | level n=>match n with
  | 0 | 1 | 2 | 3 | 4 | 5=>decide
  | n+6=>exact (by decide:(3:Nat)<=12)
 | _=>simp [rank]
section
variable {l:List Tok}
theorem keN (hl:GoodL l) (q:NT) (i:Nat) (hi:i < l.length):pw l q i ≠ .out :=
 kin hl _ q i hi (by have:=kzy q;have:(l.length - i)*16<=l.length*16:=Nat.mul_le_mul_right _ (Nat.sub_le _ _);omega)
theorem kzz (hl:GoodL l) (q:NT) (i:Nat) (hi:i < l.length):Fine l i (pw l q i):=kfP hl _ q i hi
theorem kaC (hl:GoodL l) (q:NT) (i:Nat) (hi:i < l.length):pw l q i=run (pw l) l (body q) i:=(kio l _ q i (keN hl q i hi)).symm
theorem kbF {α:Type} (hl:GoodL l) (q:NT) (f:Ret q->Pm α) (i:Nat) (hi:i < l.length):run (pw l) l (.call q f) i=run (pw l) l ((body q).bind f) i:=by
 rw [kai,run_bind,<- kaC hl q i hi]
theorem nx (hl:GoodL l) {i:Nat} {s:List UInt8} (hi:i < l.length) (h:isT s (tk l i)=true):i+1 < l.length:=by
 have h1:=kiY h
 have h2:=hl.last i hi
 have:¬ (i+1=l.length):=fun e=>h1 (h2.2 e)
 omega
theorem nxk (hl:GoodL l) {i:Nat} {k:Int} (hi:i < l.length) (h:(tk l i).kind=k) (hk:k ≠ 5):i+1 < l.length:=by
 have h2:=hl.last i hi
 have:¬ (i+1=l.length):=fun e=>hk (h▸h2.2 e)
 omega
theorem kbf (hl:GoodL l) {q:NT} {i:Nat} (hi:i < l.length) {a:Ret q} {j:Nat} (h:pw l q i=.ok a j):i<=j∧j < l.length:=by
 have:=kzz hl q i hi
 rw [h] at this
 exact this
end
inductive Eat {α:Type}:Bool->Pm α->Prop
 | ret (a:α):Eat true (.ret a)
 | fail (c:Bool):Eat c .fail
 | tst (c:Bool) (s:List UInt8) (y n:Pm α):Eat c y->Eat c n->Eat c (.tst s y n)
 | knd (c:Bool) (k:Int) (y n:Pm α):Eat c y->Eat c n->Eat c (.knd k y n)
 | look (c:Bool) (f:Tok->Pm α):(∀ x,Eat c (f x))->Eat c (.look f)
 | next (c:Bool) (m:Pm α):Eat true m->Eat c (.next m)
 | call (c:Bool) (q:NT) (f:Ret q->Pm α):(∀ a,Eat c (f a))->Eat c (.call q f)
 | eat (c:Bool) (q:NT) (f:Ret q->Pm α):(match q with | .expr | .level _ | .unary | .atom=>True | _=>False)->(∀ a,Eat true (f a))->Eat c (.call q f)
def eats:NT->Prop
 | .expr | .level _ | .unary | .atom=>True
 | _=>False
theorem kew {α:Type} {P:(q:NT)->Nat->Rs (Ret q)} {l:List Tok} (hP:∀ q i a j,P q i=.ok a j->i<=j):∀ (m:Pm α) (i:Nat) (a:α) (j:Nat),run P l m i=.ok a j->i<=j
 | .ret _,i,a,j,h=>by rw [run] at h;cases h;exact Nat.le_refl _
 | .fail,i,a,j,h=>by rw [run] at h;cases h
 | .tst s y n,i,a,j,h=>by
  rw [run] at h
  cases hq:isT s (tk l i)
  · rw [hq] at h;exact kew hP n i a j h
  · rw [hq] at h;exact kew hP y i a j h
 | .knd k y n,i,a,j,h=>by
  rw [run] at h
  cases hq:(tk l i).kind==k
  · rw [hq] at h;exact kew hP n i a j h
  · rw [hq] at h;exact kew hP y i a j h
 | .look f,i,a,j,h=>by rw [run] at h;exact kew hP _ i a j h
 | .next m,i,a,j,h=>by rw [run] at h;exact Nat.le_of_succ_le (kew hP m (i+1) a j h)
 | .call q f,i,a,j,h=>by
  rw [kai] at h
  cases hq:P q i with
  | ok b k=>rw [hq] at h;exact Nat.le_trans (hP q i b k hq) (kew hP _ k a j h)
  | no k=>rw [hq] at h;cases h
  | out=>rw [hq] at h;cases h
theorem kzA {α:Type} {P:(q:NT)->Nat->Rs (Ret q)} {l:List Tok} (hP:∀ q i a j,P q i=.ok a j->i<=j) (hS:∀ q i a j,eats q->P q i=.ok a j->i < j) {c:Bool} {m:Pm α} (hm:Eat c m) :
 ∀ (i:Nat) (a:α) (j:Nat),c=false->run P l m i=.ok a j->i < j:=by
 induction hm with
 | ret b=>exact fun i a j hc=>by cases hc
 | fail c=>exact fun i a j hc h=>by rw [run] at h;cases h
 | tst c s y n _ _ hy hn =>
  intro i a j hc h
  rw [run] at h
  cases hq:isT s (tk l i)
  · rw [hq] at h;exact hn i a j hc h
  · rw [hq] at h;exact hy i a j hc h
 | knd c k y n _ _ hy hn =>
  intro i a j hc h
  rw [run] at h
  cases hq:(tk l i).kind==k
  · rw [hq] at h;exact hn i a j hc h
  · rw [hq] at h;exact hy i a j hc h
 | look c f _ ih=>exact fun i a j hc h=>by rw [run] at h;exact ih _ i a j hc h
 | next c m _ _=>exact fun i a j hc h=>by rw [run] at h;exact Nat.lt_of_succ_le (kew hP m (i+1) a j h)
 | call c q f _ ih =>
  intro i a j hc h
  rw [kai] at h
  cases hq:P q i with
  | ok b k=>rw [hq] at h;exact Nat.lt_of_le_of_lt (hP q i b k hq) (ih b k a j hc h)
  | no k=>rw [hq] at h;cases h
  | out=>rw [hq] at h;cases h
 | eat c q f hs _ _ =>
  intro i a j hc h
  rw [kai] at h
  cases hq:P q i with
  | ok b k =>
   rw [hq] at h
   exact Nat.lt_of_lt_of_le (hS q i b k (by cases q<;>exact hs) hq) (kew hP _ k a j h)
  | no k=>rw [hq] at h;cases h
  | out=>rw [hq] at h;cases h
theorem kiZ (l:List Tok):∀ (n:Nat) (q:NT) (i:Nat) (a:Ret q) (j:Nat),parse l n q i=.ok a j->i<=j
 | 0,q,i,a,j,h=>by cases h
 | n+1,q,i,a,j,h=>kew (kiZ l n) _ _ _ _ h
theorem ktO:∀ q:NT,eats q->Eat false (body q):=by
 intro q hq
 cases q with
 | expr =>
  unfold body
  unfold lets
  repeat' first | (exact .eat _ _ _ trivial fun _=>.ret _) | (intro _) | (constructor)
 | level n =>
  match n with
  | 0 | 1 | 2 | 3 | 4 | 5=>exact .eat _ _ _ trivial fun _=>.call _ _ _ fun _=>.ret _
  | n+6=>exact .eat _ _ _ trivial fun _=>.ret _
 | unary =>
  unfold body
  repeat' first | (exact .eat _ _ _ trivial fun _=>.ret _) | (intro _) | (constructor)
 | atom =>
  unfold body
  repeat' first | (intro _) | (constructor)
 | _=>exact hq.elim
theorem kka (l:List Tok):∀ (n:Nat) (q:NT) (i:Nat) (a:Ret q) (j:Nat),eats q->parse l n q i=.ok a j->i < j
 | 0,q,i,a,j,_,h=>by cases h
 | n+1,q,i,a,j,hq,h=>kzA (kiZ l n) (kka l n) (ktO q hq) _ _ _ rfl h
theorem kCP {l:List Tok} {q:NT} {i:Nat} {a:Ret q} {j:Nat} (hq:eats q) (h:pw l q i=.ok a j):i < j:=kka l _ q i a j hq h
end Go.Proofs.YtaphnbaiamnfpaaGreatDoor.Px
/- What is read is no greater than what was read of the text. -/
namespace Go.Proofs.YtaphnbaiamnfpaaGreatDoor.Px
set_option linter.unusedVariables false
open Lx (Tok)
open Pm
mutual
def wE:E->Nat
 | .mk _ _ _ ns os ks _ _=>1+ns.length+os.length+wEs ks
def wEs:List E->Nat
 | []=>0
 | x :: r=>wE x+wEs r
end
mutual
def wT:T->Nat
 | .mk _ l=>1+wTs l
def wTs:List T->Nat
 | []=>0
 | x :: r=>wT x+wTs r
end
def wF (f:Fld):Nat:=wT f.typ
def wFs:List Fld->Nat
 | []=>0
 | x :: r=>wF x+wFs r
def wFn (f:Fnc):Nat:=1+wFs f.params+wT f.res+wE f.body
def wFns:List Fnc->Nat
 | []=>0
 | x :: r=>wFn x+wFns r
theorem kc5 (k n:Int) (s:List UInt8) (ns:List (List UInt8)) (os:List Int) (ks:List E) (a b:Int):wE (.mk k n s ns os ks a b)=1+ns.length+os.length+wEs ks:=by rw [wE]
theorem kzB (k:Int) (l:List T):wT (.mk k l)=1+wTs l:=by rw [wT]
theorem kaN (x:E) (r:List E):wEs (x :: r)=wE x+wEs r:=by rw [wEs]
theorem kbx:wEs []=0:=by rw [wEs]
theorem ke8 (x:T) (r:List T):wTs (x :: r)=wT x+wTs r:=by rw [wTs]
theorem kg8:wTs []=0:=by rw [wTs]
def wQ:(q:NT)->Ret q->Nat
 | .typ,t=>wT t
 | .typs,l=>wTs l
 | .field,f=>wF f
 | .fields,l=>wFs l
 | .fun_,f=>wFn f
 | .names,l=>l.length
 | .list _,l=>wEs l
 | .rest _,l=>wEs l
 | .pick,p=>p.1.length+wEs p.2
 | .share,l=>l.length
 | .bound,_=>1
 | .inputs,l=>wFs l
 | .funs,l=>wFns l
 | .program,p=>wFs p.inputs+wFns p.funs+wE p.query
 | .expr,e=>wE e
 | .level _,e=>wE e
 | .loop _ _,e=>wE e
 | .unary,e=>wE e
 | .atom,e=>wE e
def wB:NT->Nat
 | .loop _ left=>wE left
 | _=>0
inductive Wt {α:Type} (w:α->Nat):Nat->Pm α->Prop
 | ret (c:Nat) (a:α):w a<=c->Wt w c (.ret a)
 | fail (c:Nat):Wt w c .fail
 | tst (c:Nat) (s:List UInt8) (y n:Pm α):Wt w c y->Wt w c n->Wt w c (.tst s y n)
 | knd (c:Nat) (k:Int) (y n:Pm α):Wt w c y->Wt w c n->Wt w c (.knd k y n)
 | look (c:Nat) (f:Tok->Pm α):(∀ x,Wt w c (f x))->Wt w c (.look f)
 | next (c:Nat) (m:Pm α):Wt w (c+1) m->Wt w c (.next m)
 | call (c:Nat) (q:NT) (f:Ret q->Pm α):(∀ a v,wQ q a<=wB q+v->Wt w (c+v) (f a))->Wt w c (.call q f)
theorem kCQ {α:Type} {w:α->Nat} {P:(q:NT)->Nat->Rs (Ret q)} {l:List Tok} (hP:∀ q i a j,P q i=.ok a j->i<=j∧wQ q a+i<=wB q+j) {c:Nat} {m:Pm α} (hm:Wt w c m) :
 ∀ (i:Nat) (a:α) (j:Nat),run P l m i=.ok a j->w a+i<=c+j:=by
 induction hm with
 | ret c b h=>exact fun i a j hr=>by rw [run] at hr;cases hr;omega
 | fail c=>exact fun i a j h=>by rw [run] at h;cases h
 | tst c s y n _ _ hy hn =>
  intro i a j h
  rw [run] at h
  cases hq:isT s (tk l i)
  · rw [hq] at h;exact hn i a j h
  · rw [hq] at h;exact hy i a j h
 | knd c k y n _ _ hy hn =>
  intro i a j h
  rw [run] at h
  cases hq:(tk l i).kind==k
  · rw [hq] at h;exact hn i a j h
  · rw [hq] at h;exact hy i a j h
 | look c f _ ih=>exact fun i a j h=>by rw [run] at h;exact ih _ i a j h
 | next c m _ ih=>exact fun i a j h=>by rw [run] at h;have:=ih (i+1) a j h;omega
 | call c q f _ ih =>
  intro i a j h
  rw [kai] at h
  cases hq:P q i with
  | ok b k =>
   rw [hq] at h
   have h1:=hP q i b k hq
   have:=ih b (k - i) (by omega) k a j h
   omega
  | no k=>rw [hq] at h;cases h
  | out=>rw [hq] at h;cases h
theorem kxH (e:E):1<=wE e:=by cases e;rw [wE];omega
theorem kzC:∀ q:NT,Wt (wQ q) (wB q) (body q):=by
 intro q
 cases q with
 | level n =>
  match n with
  | 0 | 1 | 2 | 3 | 4 | 5 =>
   refine .call _ _ _ fun a v h=>.call _ _ _ fun b u h2=>.ret _ _ ?_
   simp only [wQ,wB] at *
   omega
  | n+6 =>
   refine .call _ _ _ fun a v h=>.ret _ _ ?_
   simp only [wQ,wB] at *
   omega
 | loop n left =>
  have hany:∀ (y z:Pm E) (ss:List (List UInt8)),Wt (wQ (.loop n left)) (wE left) y->Wt (wQ (.loop n left)) (wE left) z->Wt (wQ (.loop n left)) (wE left) (any ss y z):=fun y z ss hy hz=>by
   induction ss with
   | nil=>exact hz
   | cons s r ih=>exact .tst _ _ _ _ hy ih
  refine hany _ _ _ ?_ (.ret _ _ (Nat.le_refl _))
  refine .look _ _ fun t=>.next _ _ (.call _ _ _ fun r v hr=>?_)
  by_cases h:n=2∨n=3
  · rw [if_pos h]
    refine .ret _ _ ?_
    simp only [wQ,wB,kc5,kaN,kbx,List.length_nil] at *
    omega
  · rw [if_neg h]
    refine .call _ _ _ fun b u h2=>.ret _ _ ?_
    simp only [wQ,wB,kc5,kaN,kbx,List.length_nil] at *
    omega
 | _ =>
  unfold body
  repeat' first | (apply Wt.ret;simp only [wQ,wB,kc5,kaN,kbx,kzB,ke8,kg8,wF,wFs,wFn,wFns,List.length_nil,List.length_cons] at *;omega) | (unfold lets) | (unfold kbO) | (intro _) | (constructor)
theorem kmU (l:List Tok):∀ (n:Nat) (q:NT) (i:Nat) (a:Ret q) (j:Nat),parse l n q i=.ok a j->i<=j∧wQ q a+i<=wB q+j
 | 0,q,i,a,j,h=>by cases h
 | n+1,q,i,a,j,h=>⟨kiZ l (n+1) q i a j h,kCQ (kmU l n) (kzC q) i a j h⟩
theorem kzD {l:List Tok} {q:NT} {i:Nat} {a:Ret q} {j:Nat} (h:pw l q i=.ok a j):wQ q a+i<=wB q+j:=(kmU l _ q i a j h).2
end Go.Proofs.YtaphnbaiamnfpaaGreatDoor.Px
/- A program of nothing but its query. -/
namespace Go.Proofs.YtaphnbaiamnfpaaGreatDoor.Px
set_option linter.unusedVariables false
open Lx (Tok)
open Pm
section
variable {l:List Tok}
structure NoStart (t:Tok):Prop where
 k3:t.kind ≠ 3
 k1:t.kind ≠ 1
 words:∀ s,s∈[wLet,wIf,kgB,kbK,kdw,wNot,wMi,kgC,kdx,wLp,wLb,kj8,kj9,kgn]->isT s t=false
theorem kbc {α:Type} {P:(q:NT)->Nat->Rs (Ret q)} {s:List UInt8} {i:Nat} (h:isT s (tk l i)=false) (y n:Pm α):run P l (take s y n) i=run P l n i:=by
 rw [run,h]
 rfl
theorem kpX {α:Type} {P:(q:NT)->Nat->Rs (Ret q)} {k:Int} {i:Nat} (h:(tk l i).kind ≠ k) (y n:Pm α):run P l (.knd k y n) i=run P l n i:=by
 rw [run,beq_eq_false_iff_ne.2 h]
 rfl
theorem kzE (hl:GoodL l) {i:Nat} (hi:i < l.length) (h:NoStart (tk l i)):pw l .atom i=.no i:=by
 rw [kaC hl _ i hi]
 show run (pw l) l (.knd 3 _ (.knd 1 _ _)) i=_
 rw [kpX h.k3,kpX h.k1,kbc (h.words _ (by simp)),kbc (h.words _ (by simp)),kbc (h.words _ (by simp)),kbc (h.words _ (by simp)),kbc (h.words _ (by simp)),kbc (h.words _ (by simp)),kbc (h.words _ (by simp))]
 rfl
theorem ktP (hl:GoodL l) {i:Nat} (hi:i < l.length) (h:NoStart (tk l i)):pw l .unary i=.no i:=by
 rw [kaC hl _ i hi]
 show run (pw l) l (take wNot _ (take wMi _ _)) i=_
 rw [kbc (h.words _ (by simp)),kbc (h.words _ (by simp)),kai,kzE hl hi h]
 rfl
theorem kmV (hl:GoodL l) {i:Nat} (hi:i < l.length) (h:NoStart (tk l i)):∀ d n,6 - n=d->pw l (.level n) i=.no i
 | 0,n,hd=>by
  rw [kaC hl _ i hi]
  obtain ⟨n,rfl⟩:∃ m,n=m+6:=⟨n - 6,by omega⟩
  show run (pw l) l (.call .unary .ret) i=_
  rw [kai,ktP hl hi h]
  rfl
 | d+1,n,hd=>by
  have ih:=kmV hl hi h d (n+1) (by omega)
  rw [kaC hl _ i hi]
  match n,hd,ih with
  | 0,_,ih | 1,_,ih | 2,_,ih | 3,_,ih | 4,_,ih | 5,_,ih =>
   simp only [body]
   rw [kai,ih]
   rfl
  | n+6,hd,_=>omega
theorem kzF (hl:GoodL l) {i:Nat} (hi:i < l.length) (h:NoStart (tk l i)):pw l .expr i=.no i:=by
 rw [kaC hl _ i hi]
 show run (pw l) l (take wLet _ (take wIf _ (take kgB _ (take kbK _ (take kdw _ _))))) i=_
 rw [kbc (h.words _ (by simp)),kbc (h.words _ (by simp)),kbc (h.words _ (by simp)),kbc (h.words _ (by simp)),kbc (h.words _ (by simp)),kai,kmV hl hi h 6 0 rfl]
 rfl
theorem kzG {s w:List UInt8} {t:Tok} (h:isT w t=true) (hne:w ≠ s):isT s t=false:=by
 unfold isT at h ⊢
 rw [Bool.and_eq_true,beq_iff_eq] at h
 rw [h.2,beq_eq_false_iff_ne.2 hne,Bool.and_false]
theorem isT_k {w:List UInt8} {t:Tok} (h:isT w t=true):t.kind=4∨t.kind=2:=by
 unfold isT at h
 rw [Bool.and_eq_true,Bool.or_eq_true,beq_iff_eq,beq_iff_eq] at h
 exact h.1
theorem kzH {w:List UInt8} {t:Tok} (h:isT w t=true) (hw:∀ s,s∈[wLet,wIf,kgB,kbK,kdw,wNot,wMi,kgC,kdx,wLp,wLb,kj8,kj9,kgn]->w ≠ s):NoStart t:=by
 have:=isT_k h
 exact ⟨by omega,by omega,fun s hs=>kzG h (hw s hs)⟩
theorem klm (hl:GoodL l) {i:Nat} (hi:i < l.length) (h:isT kdy (tk l i)=false):pw l .inputs i=.ok [] i:=by
 rw [kaC hl _ i hi]
 exact kbc h _ _
theorem kpY (hl:GoodL l) {i:Nat} (hi:i < l.length) (h:isT wFun (tk l i)=false):pw l .funs i=.ok [] i:=by
 rw [kaC hl _ i hi]
 exact kbc h _ _
end
end Go.Proofs.YtaphnbaiamnfpaaGreatDoor.Px
namespace Go.Proofs.YtaphnbaiamnfpaaGreatDoor.Lx
theorem tok_kind {l:List UInt8} {k:Int} {w:List UInt8} {n:Int} (h:tok l=.ok k w n):k ≠ 5:=by
 unfold tok at h
 split at h
 · split at h
   · cases h
   · split at h<;>(cases h;decide)
 · split at h
   · split at h
     · cases h
     · cases h;decide
   · split at h
     · cases h
     · cases h;decide
theorem tok_bad {l:List UInt8} {e:Int} {w:List UInt8} (h:tok l=.bad e w):e ≠ 0:=by
 unfold tok at h
 split at h
 · split at h
   · cases h;decide
   · split at h<;>cases h
 · split at h
   · split at h
     · cases h;decide
     · cases h
   · split at h
     · cases h;decide
     · cases h
theorem scan_err:∀ (n:Nat) (l:List UInt8) (line col:Int) (f:Flt),l.length<=n->scan l line col=.error f->f.e ≠ 0:=by
 intro n
 induction n with
 | zero =>
  intro l line col f hl h
  cases l with
  | nil=>rw [scan] at h;cases h
  | cons c t=>simp at hl
 | succ n ih =>
  intro l line col f hl h
  cases l with
  | nil=>rw [scan] at h;cases h
  | cons c t =>
   rw [List.length_cons] at hl
   rw [scan] at h
   by_cases c10:c.toNat=10
   · rw [if_pos c10] at h
     exact ih t _ _ f (by omega) h
   · rw [if_neg c10] at h
     by_cases cw:ws c=true
     · rw [if_pos cw] at h
       exact ih t _ _ f (by omega) h
     · rw [if_neg cw] at h
       by_cases c35:c.toNat=35
       · rw [if_pos c35] at h
         have hd:(t.dropWhile nnl).length<=t.length:=(List.dropWhile_sublist nnl).length_le
         exact ih (t.dropWhile nnl) _ _ f (by omega) h
       · rw [if_neg c35] at h
         cases htk:tok (c :: t) with
         | bad e w =>
          rw [htk] at h
          cases h
          exact tok_bad htk
         | ok k w m =>
          rw [htk] at h
          simp only [] at h
          cases hs:scan (t.drop (w.length - 1)) line (col+w.length) with
          | error f' =>
           rw [hs] at h
           cases h
           exact ih (t.drop (w.length - 1)) _ _ _ (by rw [List.length_drop];omega) hs
          | ok l2=>rw [hs] at h;cases h
end Go.Proofs.YtaphnbaiamnfpaaGreatDoor.Lx
namespace Go.Proofs.YtaphnbaiamnfpaaGreatDoor.Lx
theorem takeWhile_all (p:UInt8->Bool):∀ (l:List UInt8) (x:UInt8),x∈l.takeWhile p->p x=true
 | [],x,h=>by simp at h
 | c :: t,x,h=>by
  by_cases hc:p c=true
  · rw [List.takeWhile_cons_of_pos hc] at h
    rcases List.mem_cons.1 h with h | h
    · rw [h];exact hc
    · exact takeWhile_all p t x h
  · rw [List.takeWhile_cons_of_neg hc] at h;simp at h
theorem kce (p:UInt8->Bool):∀ (w z:List UInt8),(∀ c∈w,p c=true)->(z=[]∨∃ d t,z=d :: t∧p d=false)->(w++z).takeWhile p=w∧(w++z).dropWhile p=z
 | [],z,_,hz=>by
  rcases hz with rfl | ⟨d,t,rfl,hd⟩
  · exact ⟨rfl,rfl⟩
  · show (d :: t).takeWhile p=[]∧(d :: t).dropWhile p=d :: t
    have hd':¬ p d=true:=by rw [hd];decide
    rw [List.takeWhile_cons_of_neg hd',List.dropWhile_cons_of_neg hd']
    exact ⟨rfl,rfl⟩
 | c :: w,z,hw,hz=>by
  have ih:=kce p w z (fun x hx=>hw x (by simp [hx])) hz
  have hc:=hw c (by simp)
  show (c :: (w++z)).takeWhile p=c :: w∧(c :: (w++z)).dropWhile p=z
  rw [List.takeWhile_cons_of_pos hc,List.dropWhile_cons_of_pos hc,ih.1,ih.2]
  exact ⟨rfl,rfl⟩
theorem kex (p:UInt8->Bool):∀ (l:List UInt8) (d:UInt8) (t:List UInt8),l.drop (l.takeWhile p).length=d :: t->p d=false
 | [],d,t,h=>by simp at h
 | c :: l,d,t,h=>by
  by_cases hc:p c=true
  · rw [List.takeWhile_cons_of_pos hc] at h
    exact kex p l d t h
  · rw [List.takeWhile_cons_of_neg hc] at h
    cases h
    simpa using hc
theorem kez (p:UInt8->Bool):∀ (l:List UInt8) {c:UInt8} {t:List UInt8},l.dropWhile p=c :: t->p c=false
 | [],c,t,h=>by simp at h
 | b :: l,c,t,h=>by
  by_cases hb:p b=true
  · rw [List.dropWhile_cons_of_pos hb] at h
    exact kez p l h
  · rw [List.dropWhile_cons_of_neg hb] at h
    cases h
    simpa using hb
def Stop (l w z:List UInt8):Prop:=z=[]∨∃ d t,z=d :: t∧(d=32∨d=10∨∃ t',l.drop w.length=d :: t')
theorem Stop.no {l w z:List UInt8} (p:UInt8->Bool) (hw:w=l.takeWhile p) (h32:p 32=false) (h10:p 10=false) (h:Stop l w z):z=[]∨∃ d t,z=d :: t∧p d=false:=by
 rcases h with h | ⟨d,t,h,h2⟩
 · exact .inl h
 · refine .inr ⟨d,t,h,?_⟩
   rcases h2 with rfl | rfl | ⟨t',h2⟩
   · exact h32
   · exact h10
   · rw [hw] at h2
     exact kex p l d t' h2
theorem kg9 {w:List UInt8} (hw:w ≠ []) (z:List UInt8):(w++z).headD 0=w.headD 0:=by
 cases w with
 | nil=>exact absurd rfl hw
 | cons c t=>rfl
theorem kdJ {l:List UInt8} (p:UInt8->Bool) (h:l.takeWhile p ≠ []):(l.takeWhile p).headD 0=l.headD 0:=by
 cases l with
 | nil=>exact absurd rfl h
 | cons c t =>
  by_cases hc:p c=true
  · rw [List.takeWhile_cons_of_pos hc];rfl
  · rw [List.takeWhile_cons_of_neg hc] at h;exact absurd rfl h
theorem kmW {x:List UInt8} (h:has twos x=true):∃ a b,x=[a,b]∧hasB ones a=true∧b ≠ 32∧b ≠ 10∧sm a=false∧dg a=false:=by
 have hm:x∈twos:=List.contains_iff_mem.1 h
 simp only [twos,List.mem_cons,List.not_mem_nil,or_false] at hm
 rcases hm with rfl | rfl | rfl | rfl<;>exact ⟨_,_,rfl,by decide,by decide,by decide,by decide,by decide⟩
theorem kzI {l w z:List UInt8} (hw:w=sgn l) (hne:w ≠ []) (h:Stop l w z):sgn (w++z)=w:=by
 unfold sgn at hw
 by_cases h2:has twos (l.take 2)=true
 · rw [if_pos h2] at hw
   obtain ⟨a,b,hab,_⟩:=kmW h2
   rw [hab] at hw
   rw [hab] at h2
   subst hw
   unfold sgn
   have:([a,b]++z).take 2=[a,b]:=rfl
   rw [this,if_pos h2]
 · rw [if_neg h2] at hw
   by_cases h1:hasB ones (l.headD 0)=true
   · rw [if_pos h1] at hw
     cases l with
     | nil=>rw [hw] at hne;exact absurd rfl hne
     | cons c t =>
      have hwc:w=[c]:=hw
      subst hwc
      have hc:hasB ones c=true:=h1
      unfold sgn
      have ht2:¬ has twos (([c]++z).take 2)=true:=by
       intro h3
       obtain ⟨a,b,hab,_,hb1,hb2,_⟩:=kmW h3
       rcases h with rfl | ⟨d,t2,rfl,h4⟩
       · cases hab
       · have:d=b:=by
          have:[c,d]=[a,b]:=hab
          injection this with _ this
          injection this
         rcases h4 with e | e | ⟨t',h4⟩
         · exact hb1 (this▸e)
         · exact hb2 (this▸e)
         · have hd:t=d :: t':=h4
           apply h2
           rw [hd]
           exact h3
      rw [if_neg ht2,if_pos (show hasB ones (([c]++z).headD 0)=true from hc)]
      rfl
   · rw [if_neg h1] at hw
     exact absurd hw hne
theorem kzJ {l w z:List UInt8} {k n:Int} (h:tok l=.ok k w n) (hz:Stop l w z):tok (w++z)=.ok k w n:=by
 obtain ⟨_,hne⟩:=tok_take h
 unfold tok at h
 by_cases h1:sm (l.headD 0)=true
 · rw [if_pos h1] at h
   have hw:w=l.takeWhile nm:=by
    split at h
    · cases h
    · split at h<;>(cases h;rfl)
   have htw:=kce nm w z (by rw [hw];exact takeWhile_all nm l) (hz.no nm hw (by decide) (by decide))
   unfold tok
   rw [kg9 hne,hw,kdJ nm (hw▸hne),if_pos h1,<- hw,htw.1]
   rw [<- hw] at h
   exact h
 · rw [if_neg h1] at h
   by_cases h2:dg (l.headD 0)=true
   · rw [if_pos h2] at h
     have hw:w=l.takeWhile dg:=by
      split at h
      · cases h
      · cases h;rfl
     have htw:=kce dg w z (by rw [hw];exact takeWhile_all dg l) (hz.no dg hw (by decide) (by decide))
     unfold tok
     rw [kg9 hne,hw,kdJ dg (hw▸hne),if_neg h1,if_pos h2,<- hw,htw.1]
     rw [<- hw] at h
     exact h
   · rw [if_neg h2] at h
     have hw:w=sgn l:=by
      split at h
      · cases h
      · cases h;rfl
     have hh:w.headD 0=l.headD 0:=by
      have:=kmT l
      rw [<- hw] at this
      cases l with
      | nil=>rw [this] at hne;simp at hne
      | cons c t =>
       cases w with
       | nil=>exact absurd rfl hne
       | cons a r=>rw [List.length_cons,List.take_succ_cons] at this;injection this with e _
     have hs:=kzI hw hne hz
     unfold tok
     rw [kg9 hne,hh,if_neg h1,if_neg h2,hs,if_neg hne]
     rw [<- hw,if_neg hne] at h
     exact h
def pl:List UInt8->Nat->Nat
 | _,0=>0
 | [],_=>0
 | c :: t,n+1=>1+pl t (if c.toNat=10 then n else n+1)
theorem kfQ (l:List UInt8):pl l 0=0:=by cases l<;>rfl
theorem pl_nl {c:UInt8} (h:c.toNat=10) (t:List UInt8) (n:Nat):pl (c :: t) (n+1)=1+pl t n:=by
 rw [pl,if_pos h]
theorem ki0:∀ (u t:List UInt8) (n:Nat),(∀ c∈u,c.toNat ≠ 10)->pl (u++t) (n+1)=u.length+pl t (n+1)
 | [],t,n,_=>by simp
 | c :: u,t,n,h=>by
  show pl (c :: (u++t)) (n+1)=_
  rw [pl,if_neg (h c (by simp)),ki0 u t n (fun x hx=>h x (by simp [hx])),List.length_cons]
  omega
def Hd (r l:List UInt8):Prop:=r=[]∨∃ d t t',r=d :: t∧l=d :: t'
theorem Hd.app {r l:List UInt8} (p:Nat) (h:Hd r (l.drop p)):Hd (l.take p++r) l:=by
 cases p with
 | zero=>simpa using h
 | succ p =>
  cases l with
  | nil =>
   rcases h with rfl | ⟨d,t,t',_,h⟩
   · exact .inl rfl
   · simp at h
  | cons c l=>exact .inr ⟨c,l.take p++r,l,rfl,rfl⟩
theorem ktQ {l:List UInt8} {k:Int} {w:List UInt8} {n:Int} (h:tok l=.ok k w n):∀ c∈w,c.toNat ≠ 10:=by
 have hnm:∀ c:UInt8,nm c=true->c.toNat ≠ 10:=by
  intro c hc e
  simp [nm,sm,dg,e] at hc
 unfold tok at h
 by_cases h1:sm (l.headD 0)=true
 · rw [if_pos h1] at h
   have hw:w=l.takeWhile nm:=by
    split at h
    · cases h
    · split at h<;>(cases h;rfl)
   rw [hw]
   exact fun c hc=>hnm c (takeWhile_all nm l c hc)
 · rw [if_neg h1] at h
   by_cases h2:dg (l.headD 0)=true
   · rw [if_pos h2] at h
     have hw:w=l.takeWhile dg:=by
      split at h
      · cases h
      · cases h;rfl
     rw [hw]
     exact fun c hc=>hnm c (by have:=takeWhile_all dg l c hc;simp [nm,this])
   · rw [if_neg h2] at h
     have hw:w=sgn l:=by
      split at h
      · cases h
      · cases h;rfl
     rw [hw]
     unfold sgn
     by_cases h3:has twos (l.take 2)=true
     · rw [if_pos h3]
       have hm:l.take 2∈twos:=List.contains_iff_mem.1 h3
       have:∀ x∈twos,∀ c∈x,c.toNat ≠ 10:=by decide
       exact this _ hm
     · rw [if_neg h3]
       by_cases h4:hasB ones (l.headD 0)=true
       · rw [if_pos h4]
         cases l with
         | nil=>simp
         | cons c t =>
          have:∀ x∈ones,x.toNat ≠ 10:=by decide
          intro x hx
          have:x=c:=by simpa using hx
          rw [this]
          exact (by assumption:∀ x∈ones,x.toNat ≠ 10) c (ktK.1 h4)
       · rw [if_neg h4];simp
end Go.Proofs.YtaphnbaiamnfpaaGreatDoor.Lx
namespace Go.Proofs.YtaphnbaiamnfpaaGreatDoor.Lx
def nls:List UInt8->Nat
 | []=>0
 | c :: t=>(if c.toNat=10 then 1 else 0)+nls t
def put (pre:List Tok):Except Flt (List Tok)->Except Flt (List Tok)
 | .error g=>.error g
 | .ok ts=>.ok (pre++ts)
theorem put_nil (x:Except Flt (List Tok)):put [] x=x:=by cases x<;>rfl
def shTok (n:Int) (t:Tok):Tok:=⟨t.kind,t.text,t.n,t.line+n,t.col⟩
def sh (n:Int):Except Flt (List Tok)->Except Flt (List Tok)
 | .error g=>.error ⟨g.e,g.text,g.line+n,g.col⟩
 | .ok ts=>.ok (ts.map (shTok n))
end Go.Proofs.YtaphnbaiamnfpaaGreatDoor.Lx
namespace Go.Proofs.YtaphnbaiamnfpaaGreatDoor.Lx
def bare (t:Tok):Int × List UInt8 × Int:=(t.kind,t.text,t.n)
inductive Good:List Tok->Prop where
 | fin (line col:Int):Good [⟨5,[],0,line,col⟩]
 | tok (k:Int) (w:List UInt8) (n line col:Int) (l:List UInt8) (r:List Tok):tok l=.ok k w n->(∃ c t,w=c :: t∧c.toNat ≠ 10∧ws c=false∧c.toNat ≠ 35)->Good r->Good (⟨k,w,n,line,col⟩ :: r)
def isTok (t:Tok):Bool:=decide (t.kind ≠ 5)
def joinT:List Tok->List UInt8
 | []=>[]
 | [_]=>[]
 | [a,_]=>a.text
 | a :: r=>a.text++32 :: joinT r
end Go.Proofs.YtaphnbaiamnfpaaGreatDoor.Lx
namespace Go.Proofs.YtaphnbaiamnfpaaGreatDoor.Lx
set_option linter.unusedVariables false
set_option linter.unusedSimpArgs false
open Px (tk)
theorem put_put (a b:List Tok) (x:Except Flt (List Tok)):put a (put b x)=put (a++b) x:=by
 cases x with
 | error g=>rfl
 | ok ts=>show Except.ok _=Except.ok _;rw [List.append_assoc]
structure At (l:List UInt8) (line col:Int) (ts:List Tok) (i p:Nat):Prop where
 le:p<=l.length
 tail:scan (l.drop p) (tk ts i).line (tk ts i).col=.ok (ts.drop i)
 what:(l.drop p=[]∧(tk ts i).kind=5)∨(∃ c t,l.drop p=c :: t∧c.toNat ≠ 10∧ws c=false∧c.toNat ≠ 35)∧tok (l.drop p)=.ok (tk ts i).kind (tk ts i).text (tk ts i).n
 ln:line<=(tk ts i).line
 hi:(tk ts i).line<=line+(l.length:Int)
 pos:(p:Int)=pl l ((tk ts i).line - line).toNat+(if (tk ts i).line=line then (tk ts i).col - col else (tk ts i).col - 1)
 go:∀ r,Hd r (l.drop p)->scan (l.take p++r) line col=put (ts.take i) (scan r (tk ts i).line (tk ts i).col)
theorem scan_at:∀ (m:Nat) (l:List UInt8) (line col:Int) (ts:List Tok),l.length<=m->scan l line col=.ok ts->∀ i,i < ts.length->∃ p,At l line col ts i p:=by
 intro m
 induction m with
 | zero =>
  intro l line col ts hl h i hi
  cases l with
  | nil =>
   rw [scan] at h
   cases h
   obtain rfl:i=0:=by simpa using hi
   refine ⟨0,Nat.le_refl _,by rw [List.drop_nil,scan];rfl,.inl ⟨rfl,rfl⟩,Int.le_refl _,by simp [tk];try omega,by simp [tk,kfQ],fun r _=>?_⟩
   show scan ([]++r) line col=put [] _
   rw [put_nil]
   rfl
  | cons c t=>simp at hl
 | succ m ih =>
  intro l line col ts hl h i hi
  cases l with
  | nil =>
   rw [scan] at h
   cases h
   obtain rfl:i=0:=by simpa using hi
   refine ⟨0,Nat.le_refl _,by rw [List.drop_nil,scan];rfl,.inl ⟨rfl,rfl⟩,Int.le_refl _,by simp [tk];try omega,by simp [tk,kfQ],fun r _=>?_⟩
   show scan ([]++r) line col=put [] _
   rw [put_nil]
   rfl
  | cons c t =>
   rw [List.length_cons] at hl
   rw [scan] at h
   by_cases c10:c.toNat=10
   · rw [if_pos c10] at h
     obtain ⟨p,h0,ht,h1,h3,hh,h4,h5⟩:=ih t _ _ ts (by omega) h i hi
     refine ⟨p+1,by rw [List.length_cons];omega,ht,h1,by omega,by rw [List.length_cons];omega,?_,?_⟩
     · generalize tk ts i=f at *
       obtain ⟨n,hn⟩:∃ n:Nat,(f.line - (line+1)).toNat=n:=⟨_,rfl⟩
       rw [show (f.line - line).toNat=n+1 by omega,pl_nl c10,if_neg (by omega)]
       rw [hn] at h4
       split at h4<;>omega
     · intro r hr
       have hp:=h5 r hr
       show scan (c :: (t.take p++r)) line col=_
       rw [scan,if_pos c10]
       exact hp
   · rw [if_neg c10] at h
     by_cases cw:ws c=true
     · rw [if_pos cw] at h
       obtain ⟨p,h0,ht,h1,h3,hh,h4,h5⟩:=ih t _ _ ts (by omega) h i hi
       refine ⟨p+1,by rw [List.length_cons];omega,ht,h1,h3,by rw [List.length_cons];omega,?_,?_⟩
       · generalize tk ts i=f at *
         by_cases hln:f.line=line
         · rw [if_pos hln] at h4 ⊢
           rw [show (f.line - line).toNat=0 by omega,kfQ] at h4 ⊢
           omega
         · rw [if_neg hln] at h4 ⊢
           obtain ⟨n,hn⟩:∃ n:Nat,(f.line - line).toNat=n+1:=⟨(f.line - line).toNat - 1,by omega⟩
           have:=ki0 [c] t n (by simpa using c10)
           rw [hn] at h4 ⊢
           rw [show c :: t=[c]++t from rfl,this,List.length_singleton]
           omega
       · intro r hr
         have hp:=h5 r hr
         show scan (c :: (t.take p++r)) line col=_
         rw [scan,if_neg c10,if_pos cw]
         exact hp
     · rw [if_neg cw] at h
       by_cases c35:c.toNat=35
       · rw [if_pos c35] at h
         have hsplit:t.takeWhile nnl++t.dropWhile nnl=t:=List.takeWhile_append_dropWhile
         have hall:=takeWhile_all nnl t
         have hd:(t.dropWhile nnl).length<=t.length:=(List.dropWhile_sublist nnl).length_le
         obtain ⟨p,h0,ht,h1,h3,hh,h4,h5⟩:=ih (t.dropWhile nnl) _ _ ts (by omega) h i hi
         generalize hu:t.takeWhile nnl=u at hsplit hall h4 h5
         generalize hv:t.dropWhile nnl=v at hsplit ht h1 h4 h5 h0 hh
         have hvn:∀ d t',v=d :: t'->nnl d=false:=by
          intro d t' e
          exact kez nnl t (hv.trans e)
         have hno:∀ x∈c :: u,x.toNat ≠ 10:=by
          intro x hx
          rcases List.mem_cons.1 hx with hx | hx
          · rw [hx];exact c10
          · have:=hall x hx
            simpa [nnl] using this
         subst hsplit
         have hdr:(c :: (u++v)).drop (u.length+1+p)=v.drop p:=by
          rw [show u.length+1+p=(c :: u).length+p by simp,<- List.drop_drop]
          show (((c :: u)++v).drop (c :: u).length).drop p=_
          rw [List.drop_left]
         refine ⟨u.length+1+p,by rw [List.length_cons,List.length_append];omega,by rw [hdr];exact ht,by rw [hdr];exact h1,h3,by rw [List.length_cons,List.length_append];omega,?_,?_⟩
         · generalize tk ts i=f at *
           by_cases hln:f.line=line
           · rw [if_pos hln] at h4 ⊢
             rw [show (f.line - line).toNat=0 by omega,kfQ] at h4 ⊢
             omega
           · rw [if_neg hln] at h4 ⊢
             obtain ⟨n,hn⟩:∃ n:Nat,(f.line - line).toNat=n+1:=⟨(f.line - line).toNat - 1,by omega⟩
             have:=ki0 (c :: u) v n hno
             rw [hn] at h4 ⊢
             rw [show c :: (u++v)=(c :: u)++v from rfl,this,List.length_cons]
             omega
         · intro r hr
           rw [hdr] at hr
           have hp:=h5 r hr
           have htk:(c :: (u++v)).take (u.length+1+p)++r=c :: (u++(v.take p++r)):=by
            have:((c :: u)++v).take ((c :: u).length+p)=(c :: u)++v.take p:=List.take_length_add_append p
            rw [show u.length+1+p=(c :: u).length+p by simp]
            show ((c :: u)++v).take _++r=_
            rw [this]
            simp
           have hz:v.take p++r=[]∨∃ d t,v.take p++r=d :: t∧nnl d=false:=by
            rcases Hd.app p hr with e | ⟨d,t1,t2,e1,e2⟩
            · exact .inl e
            · exact .inr ⟨d,t1,e1,hvn d t2 e2⟩
           have htw:=kce nnl u (v.take p++r) hall hz
           rw [htk,scan,if_neg c10,if_neg cw,if_pos c35,htw.1,htw.2]
           exact hp
       · rw [if_neg c35] at h
         cases htk:tok (c :: t) with
         | bad e w=>rw [htk] at h;cases h
         | ok k w n =>
          rw [htk] at h
          simp only [] at h
          cases hs:scan (t.drop (w.length - 1)) line (col+w.length) with
          | error f'=>rw [hs] at h;cases h
          | ok l2 =>
           have h00:scan (c :: t) line col=.ok (⟨k,w,n,line,col⟩ :: l2):=by
            rw [scan,if_neg c10,if_neg cw,if_neg c35,htk]
            simp only []
            rw [hs]
           rw [hs] at h
           cases h
           cases i with
           | zero =>
            refine ⟨0,Nat.zero_le _,h00,.inr ⟨⟨c,t,rfl,c10,by simpa using cw,c35⟩,htk⟩,Int.le_refl _,by simp [tk];try omega,by simp [tk,kfQ],fun r _=>?_⟩
            show scan ([]++r) line col=put [] _
            rw [put_nil]
            rfl
           | succ i =>
           obtain ⟨hw,hwn⟩:=tok_take htk
           obtain ⟨b,w',rfl⟩:∃ b w',w=b :: w':=by cases w with | nil=>exact absurd rfl hwn | cons b w'=>exact ⟨b,w',rfl⟩
           rw [List.length_cons,List.take_succ_cons] at hw
           injection hw with hb hw
           subst hb
           rw [List.length_cons] at hs
           simp only [Nat.add_sub_cancel] at hs
           obtain ⟨p,h0,ht,h1,h3,hh,h4,h5⟩:=ih (t.drop w'.length) _ _ l2 (by rw [List.length_drop];omega) hs i (by simpa using hi)
           have hno:∀ x∈b :: w',x.toNat ≠ 10:=ktQ htk
           have hsplit:w'++t.drop w'.length=t:=by
            conv=>lhs;arg 1;rw [hw]
            exact List.take_append_drop _ _
           generalize t.drop w'.length=v at hs h0 ht h1 h3 h4 h5 hsplit hh
           subst hsplit
           have hdr:(b :: (w'++v)).drop (w'.length+1+p)=v.drop p:=by
            rw [show w'.length+1+p=(b :: w').length+p by simp,<- List.drop_drop]
            show (((b :: w')++v).drop (b :: w').length).drop p=_
            rw [List.drop_left]
           have htk0:tk (⟨k,b :: w',n,line,col⟩ :: l2) (i+1)=tk l2 i:=rfl
           refine ⟨w'.length+1+p,by rw [List.length_cons,List.length_append];omega,by rw [hdr,htk0];exact ht,by rw [hdr,htk0];exact h1,by rw [htk0];exact h3,by rw [htk0,List.length_cons,List.length_append];omega,?_,?_⟩
           · rw [htk0]
             generalize tk l2 i=f at *
             by_cases hln:f.line=line
             · rw [if_pos hln] at h4 ⊢
               rw [show (f.line - line).toNat=0 by omega,kfQ] at h4 ⊢
               omega
             · rw [if_neg hln] at h4 ⊢
               obtain ⟨n',hn⟩:∃ n:Nat,(f.line - line).toNat=n+1:=⟨(f.line - line).toNat - 1,by omega⟩
               have:=ki0 (b :: w') v n' hno
               rw [hn] at h4 ⊢
               rw [show b :: (w'++v)=(b :: w')++v from rfl,this,List.length_cons]
               omega
           · intro r hr
             rw [hdr] at hr
             have hp:=h5 r hr
             have htk2:(b :: (w'++v)).take (w'.length+1+p)++r=b :: (w'++(v.take p++r)):=by
              have:((b :: w')++v).take ((b :: w').length+p)=(b :: w')++v.take p:=List.take_length_add_append p
              rw [show w'.length+1+p=(b :: w').length+p by simp]
              show ((b :: w')++v).take _++r=_
              rw [this]
              simp
             have hz:Stop (b :: (w'++v)) (b :: w') (v.take p++r):=by
              rcases Hd.app p hr with e | ⟨d,t1,t2,e1,e2⟩
              · exact .inl e
              · refine .inr ⟨d,t1,e1,.inr (.inr ⟨t2,?_⟩)⟩
                show ((b :: w')++v).drop (b :: w').length=_
                rw [List.drop_left,e2]
             have htx:tok (b :: (w'++(v.take p++r)))=.ok k (b :: w') n:=kzJ htk hz
             rw [htk2,scan,if_neg c10,if_neg cw,if_neg c35,htx]
             simp only [List.length_cons,Nat.add_sub_cancel]
             rw [List.drop_left,htk0]
             rw [hp]
             cases hq:scan r (tk l2 i).line (tk l2 i).col with
             | error g=>rfl
             | ok ts=>rfl
def bareX:Except Flt (List Tok)->Except (Int × List UInt8) (List (Int × List UInt8 × Int))
 | .error g=>.error (g.e,g.text)
 | .ok ts=>.ok (ts.map bare)
theorem scan_cons_tok {c:UInt8} {t:List UInt8} {line col k n:Int} {w:List UInt8} (c10:c.toNat ≠ 10) (cw:ws c=false) (c35:c.toNat ≠ 35) (h:tok (c :: t)=.ok k w n) :
 scan (c :: t) line col=put [⟨k,w,n,line,col⟩] (scan (t.drop (w.length - 1)) line (col+w.length)):=by
 rw [scan,if_neg c10,if_neg (by rw [cw];decide),if_neg c35,h]
 simp only
 cases scan (t.drop (w.length - 1)) line (col+w.length)<;>rfl
def gapC (d:UInt8):Prop:=d=32∨d=10∨d=9∨d=35
def Gap (g:List UInt8):Prop:=(∃ d t,g=d :: t∧gapC d)∧∀ line col,∃ line' col',∀ v,scan (g++v) line col=scan v line' col'
def gapped:List (List UInt8)->List Tok->List UInt8
 | g :: gs,t :: r=>g++t.text++gapped gs r
 | _,_=>[]
end Go.Proofs.YtaphnbaiamnfpaaGreatDoor.Lx
namespace Go.Proofs.YtaphnbaiamnfpaaGreatDoor.Px
set_option linter.unusedVariables false
set_option linter.unusedSimpArgs false
open Lx (Tok bare)
open Pm
def endR {α:Type}:Rs α->Nat
 | .ok _ k=>k
 | .no k=>k
 | .out=>0
mutual
def sE:E->E
 | .mk k n s ns os ks _ _=>.mk k n s ns os (sEs ks) 0 0
def sEs:List E->List E
 | []=>[]
 | x :: r=>sE x :: sEs r
end
theorem ktR (k n:Int) (s:List UInt8) (ns:List (List UInt8)) (os:List Int) (ks:List E) (a b:Int):sE (.mk k n s ns os ks a b)=.mk k n s ns os (sEs ks) 0 0:=by rw [sE]
theorem kcL (x:E) (r:List E):sEs (x :: r)=sE x :: sEs r:=by rw [sEs]
theorem ki1:sEs []=[]:=by rw [sEs]
def sF (f:Fld):Fld:=⟨f.name,f.typ,0,0⟩
def sFn (f:Fnc):Fnc:=⟨f.name,f.params.map sF,f.res,sE f.body,0,0⟩
def sP (p:Pg):Pg:=⟨p.inputs.map sF,p.funs.map sFn,sE p.query⟩
def sQ:(q:NT)->Ret q->Ret q
 | .typ,t=>t
 | .typs,l=>l
 | .field,f=>sF f
 | .fields,l=>l.map sF
 | .fun_,f=>sFn f
 | .names,l=>l
 | .list _,l=>sEs l
 | .rest _,l=>sEs l
 | .pick,p=>(p.1,sEs p.2)
 | .share,l=>l
 | .bound,l=>l
 | .inputs,l=>l.map sF
 | .funs,l=>l.map sFn
 | .program,p=>sP p
 | .expr,e=>sE e
 | .level _,e=>sE e
 | .loop _ _,e=>sE e
 | .unary,e=>sE e
 | .atom,e=>sE e
inductive Dead (d:NT->Prop) {α:Type}:Pm α->Prop
 | fail:Dead d .fail
 | tst (s:List UInt8) (y n:Pm α):Dead d n->Dead d (.tst s y n)
 | knd (k:Int) (y n:Pm α):k ≠ 5->Dead d n->Dead d (.knd k y n)
 | look (f:Tok->Pm α):(∀ t,Dead d (f t))->Dead d (.look f)
 | call (q:NT) (f:Ret q->Pm α):d q->Dead d (.call q f)
def dead:NT->Prop
 | .expr | .level _ | .unary | .atom | .field | .typ=>True
 | _=>False
inductive Tw {α:Type} (R:α->α->Prop):Pm α->Pm α->Prop
 | ret (a b:α):R a b->Tw R (.ret a) (.ret b)
 | fail:Tw R .fail .fail
 | tst (s:List UInt8) (y n y' n':Pm α):Tw R y y'->Tw R n n'->(s=wRp∨s=wCm->Dead dead n)->Tw R (.tst s y n) (.tst s y' n')
 | knd (k:Int) (y n y' n':Pm α):k ≠ 5->k ≠ 4->Tw R y y'->Tw R n n'->Tw R (.knd k y n) (.knd k y' n')
 | look (f f':Tok->Pm α):(∀ t t',t'.text=t.text->t'.n=t.n->Tw R (f t) (f' t'))->(Dead dead (.look f)∨∀ t,∃ m,f t=.next m)->Tw R (.look f) (.look f')
 | next (m m':Pm α):Tw R m m'->Tw R (.next m) (.next m')
 | call (q:NT) (f f':Ret q->Pm α):(∀ a b,sQ q a=sQ q b->Tw R (f a) (f' b))->Tw R (.call q f) (.call q f')
 | loop (n:Nat) (x y:E) (f f':E->Pm α):sE x=sE y->(∀ a b,sE a=sE b->Tw R (f a) (f' b))->Tw R (.call (.loop n x) f) (.call (.loop n y) f')
def SQ (q:NT) (a b:Ret q):Prop:=sQ q a=sQ q b
def RR {α:Type} (R:α->α->Prop):Rs α->Rs α->Prop
 | .ok a i,.ok b j=>i=j∧R a b
 | .no i,.no j=>i=j
 | .out,.out=>True
 | _,_=>False
end Go.Proofs.YtaphnbaiamnfpaaGreatDoor.Px
namespace Go.Proofs.YtaphnbaiamnfpaaGreatDoor.Px
set_option linter.unusedVariables false
set_option linter.unusedSimpArgs false
open Lx (Tok bare)
abbrev Bt:Type:=Int × List UInt8 × Int
inductive Pc where
 | t (b:Bt)
 | sp
 | nl
deriving Inhabited
def Pc.txt:Pc->List UInt8
 | .t b=>b.2.1
 | .sp=>[32]
 | .nl=>[10]
def txt:List Pc->List UInt8
 | []=>[]
 | p :: r=>p.txt++txt r
def tks:List Pc->List Bt
 | []=>[]
 | .t b :: r=>b :: tks r
 | .sp :: r=>tks r
 | .nl :: r=>tks r
theorem kaD:∀ a b:List Pc,txt (a++b)=txt a++txt b
 | [],b=>rfl
 | p :: a,b=>by show p.txt++txt (a++b)=_;rw [kaD a b,txt,List.append_assoc]
theorem kaW:∀ a b:List Pc,tks (a++b)=tks a++tks b
 | [],b=>rfl
 | .t x :: a,b=>by show x :: tks (a++b)=_;rw [kaW a b];rfl
 | .sp :: a,b=>kaW a b
 | .nl :: a,b=>kaW a b
abbrev pg (s:List UInt8):Pc:=.t (4,s,0)
abbrev pwd (s:List UInt8):Pc:=.t (2,s,0)
abbrev pn (s:List UInt8):Pc:=.t (1,s,0)
abbrev pu (n:Int):Pc:=.t (3,Go.Lib.itoa n,n)
def pnum (n:Int):List Pc:=if n < 0 then [pg wMi,pu (-n)] else [pu n]
def commas:List (List Pc)->List Pc
 | []=>[]
 | [x]=>x
 | x :: y :: r=>x++pg wCm :: .sp :: commas (y :: r)
def lvl (s:List UInt8):Nat :=
 if s=wOr then 1 else if s=wAnd then 2 else if s=kia∨s=wLt∨s=wLe then 3 else if s=wCc then 4
 else if s=wPl∨s=wMi then 5 else if s=wTi∨s=wSl∨s=wPc then 6 else if s=wNot∨s=wNeg then 7 else 0
def rk (k:Int) (s:List UInt8):Nat:=if k=7 then lvl s else if k=8∨k=9∨k=10∨k=11∨k=12 then 0 else 8
def lft (s:List UInt8):Nat:=if lvl s=3∨lvl s=4 then lvl s+1 else lvl s
def rgt (s:List UInt8):Nat:=if lvl s=4 then 4 else lvl s+1
def pop (s:List UInt8):Pc:=if s=wOr∨s=wAnd then pwd s else pg s
def par (m:Nat) (x:Nat × List Pc):List Pc:=if x.1 < m then pg wLp :: (x.2++[pg wRp]) else x.2
def kd (L:List (Nat × List Pc)) (i:Nat):Nat × List Pc:=L.getD i (0,[])
def opf (s:List UInt8) (L:List (Nat × List Pc)):List Pc :=
 if s=wNeg then pg wMi :: par 7 (kd L 0) else if s=wNot then pwd wNot :: .sp :: par 7 (kd L 0)
 else par (lft s) (kd L 0)++.sp :: pop s :: .sp :: par (rgt s) (kd L 1)
def letn (ns:List (List UInt8)):List Pc :=
 match ns with
 | [x]=>[pn x]
 | l=>pg wLp :: (commas (l.map fun x=>[pn x])++[pg wRp])
def picks:List Int->List (Nat × List Pc)->List (List Pc)
 | o :: os,x :: L=>(pnum o++pg wCl :: .sp :: x.2) :: picks os L
 | _,_=>[]
def form (k n:Int) (s:List UInt8) (ns:List (List UInt8)) (os:List Int) (L:List (Nat × List Pc)):List Pc :=
 if k=1 then pnum n
 else if k=2 then [pwd (if n=1 then kgC else kdx)]
 else if k=3 then [pn s]
 else if k=4 then pn s :: pg wLp :: (commas (L.map (·.2))++[pg wRp])
 else if k=5 then pg wLp :: (commas (L.map (·.2))++[pg wRp])
 else if k=6 then pg wLb :: (commas (L.map (·.2))++[pg wRb])
 else if k=7 then opf s L
 else if k=8 then pwd wLet :: .sp :: (letn ns++.sp :: pg wEq :: .sp :: ((kd L 0).2++.sp :: pwd wIn :: .sp :: (kd L 1).2))
 else if k=9 then pwd wIf :: .sp :: ((kd L 0).2++.sp :: pwd kj7 :: .sp :: ((kd L 1).2++.sp :: pwd kiX :: .sp :: (kd L 2).2))
 else if k=10 then pwd kgB :: .sp :: ((kd L 0).2++.sp :: pwd wOf :: .sp :: pg wLb :: pg wRb :: .sp :: pg wAr :: .sp :: ((kd L 1).2 ++
  .sp :: pg wBar :: .sp :: pn (ns.getD 0 []) :: .sp :: pg wCc :: .sp :: pn (ns.getD 1 []) :: .sp :: pg wAr :: .sp :: (kd L 2).2))
 else if k=11 then pwd kbK :: .sp :: ((kd L 0).2++.sp :: pwd wIn :: .sp :: (kd L 1).2)
 else if k=12 then pwd kdw :: .sp :: (pnum (os.getD 0 0)++pg wSl :: (pnum (os.getD 1 0)++.sp :: pwd wIn :: .sp :: (kd L 0).2))
 else if k=13 then pwd kj8 :: .sp :: pg wLc :: .sp :: (commas (picks os L)++[.sp,pg wRc])
 else if k=14 then pwd kj9 :: pg wLp :: (pnum (os.getD 0 0)++pg wSl :: (pnum (os.getD 1 0)++[pg wRp]))
 else pwd kgn :: pg wLp :: (pnum (os.getD 0 0)++pg wCm :: .sp :: (pnum (os.getD 1 0)++[pg wRp]))
def E.rk (e:E):Nat:=Px.rk e.k e.name
mutual
def pE:E->List Pc
 | .mk k n s ns os ks _ _=>form k n s ns os (pKs ks)
def pKs:List E->List (Nat × List Pc)
 | []=>[]
 | x :: r=>(x.rk,pE x) :: pKs r
end
theorem kha:∀ l:List E,pKs l=l.map fun x=>(x.rk,pE x)
 | []=>by rw [pKs];rfl
 | x :: r=>by rw [pKs,kha r];rfl
mutual
def pT:T->List Pc
 | .mk k l=>if k=1 then [pwd kpV] else if k=2 then [pwd wInt] else if k=3 then pg wLp :: (commas (pTs l)++[pg wRp]) else pg wLb :: (commas (pTs l)++[pg wRb])
def pTs:List T->List (List Pc)
 | []=>[]
 | x :: r=>pT x :: pTs r
end
theorem ki2:∀ l:List T,pTs l=l.map pT
 | []=>by rw [pTs];rfl
 | x :: r=>by rw [pTs,ki2 r];rfl
def pF (f:Fld):List Pc:=pn f.name :: pg wCl :: .sp :: pT f.typ
def pIn:List Fld->List Pc
 | []=>[]
 | f :: r=>pwd kdy :: .sp :: (pF f++pg wSc :: .nl :: pIn r)
def pFn (g:Fnc):List Pc:=pwd wFun :: .sp :: pn g.name :: pg wLp :: (commas (g.params.map pF)++pg wRp :: pg wCl :: .sp :: (pT g.res++.sp :: pg wEq :: .sp :: (pE g.body++[pg wSc,.nl])))
def pFns:List Fnc->List Pc
 | []=>[]
 | g :: r=>pFn g++pFns r
def pP (p:Pg):List Pc:=pIn p.inputs++(pFns p.funs++(pE p.query++[.nl]))
def kaA (s:List UInt8):Bool:=Lx.sm (s.headD 0)&&s.all Lx.nm&&decide (s.length<=24)&&!Lx.isWord s
def inO (lo:Int) (o:Int):Bool:=decide (lo<=o)&&decide (o<=2147483647)
def shaped (k n:Int) (s:List UInt8) (ns:List (List UInt8)) (os:List Int) (nk:Nat):Bool :=
 let bare:=ns.isEmpty&&os.isEmpty
 let none:=s.isEmpty&&decide (n=0)
 if k=1 then bare&&decide (nk=0)&&s.isEmpty&&inO 0 n
 else if k=2 then bare&&decide (nk=0)&&s.isEmpty&&(decide (n=0) || decide (n=1))
 else if k=3 then bare&&decide (nk=0)&&decide (n=0)&&kaA s
 else if k=4 then bare&&decide (n=0)&&kaA s
 else if k=5 then bare&&none&&decide (2<=nk)&&decide (nk<=4)
 else if k=6 then bare&&none
 else if k=7 then bare&&decide (n=0)&&decide (0 < lvl s)&&((decide (lvl s=7)&&decide (nk=1)) || (decide (lvl s < 7)&&decide (nk=2)))
 else if k=8 then none&&os.isEmpty&&decide (nk=2)&&decide (1<=ns.length)&&decide (ns.length<=4)&&ns.all kaA
 else if k=9 then bare&&none&&decide (nk=3)
 else if k=10 then none&&os.isEmpty&&decide (nk=3)&&decide (ns.length=2)&&ns.all kaA
 else if k=11 then bare&&none&&decide (nk=2)
 else if k=12 then none&&ns.isEmpty&&decide (nk=1)&&decide (os.length=2)&&os.all (inO 0)
 else if k=13 then none&&ns.isEmpty&&decide (1<=nk)&&decide (os.length=nk)&&os.all (inO 0)
 else if k=14 then none&&ns.isEmpty&&decide (nk=0)&&decide (os.length=2)&&os.all (inO 0)
 else if k=15 then none&&ns.isEmpty&&decide (nk=0)&&decide (os.length=2)&&os.all (inO (-2147483647))
 else false
mutual
def kaH:Nat->E->Bool
 | 0,.mk ..=>false
 | d+1,.mk k n s ns os ks _ _=>shaped k n s ns os ks.length&&kcr d ks
def kcr:Nat->List E->Bool
 | _,[]=>true
 | d,x :: r=>kaH d x&&kcr d r
end
mutual
def ka8:Nat->T->Bool
 | 0,.mk ..=>false
 | d+1,.mk k l=>(if k=1∨k=2 then l.isEmpty else if k=3 then decide (2<=l.length)&&decide (l.length<=4) else if k=4 then decide (l.length=1) else false)&&keO d l
def keO:Nat->List T->Bool
 | _,[]=>true
 | d,x :: r=>ka8 d x&&keO d r
end
def kbu (f:Fld):Bool:=kaA f.name&&ka8 40 f.typ
def kby (g:Fnc):Bool:=g.params.all kbu&&kaA g.name&&ka8 40 g.res&&kaH 40 g.body
def kbT (p:Pg):Bool:=p.inputs.all kbu&&p.funs.all kby&&kaH 40 p.query
inductive Shp:Int->Int->List UInt8->List (List UInt8)->List Int->Nat->Prop
 | num (n:Int):0<=n->n<=2147483647->Shp 1 n [] [] [] 0
 | bool (n:Int):n=0∨n=1->Shp 2 n [] [] [] 0
 | var (s:List UInt8):kaA s=true->Shp 3 0 s [] [] 0
 | call (s:List UInt8) (m:Nat):kaA s=true->Shp 4 0 s [] [] m
 | tup (m:Nat):2<=m->m<=4->Shp 5 0 [] [] [] m
 | list (m:Nat):Shp 6 0 [] [] [] m
 | un (s:List UInt8):s=wNeg∨s=wNot->Shp 7 0 s [] [] 1
 | bin (s:List UInt8):0 < lvl s->lvl s < 7->Shp 7 0 s [] [] 2
 | let_ (ns:List (List UInt8)):1<=ns.length->ns.length<=4->(∀ x∈ns,kaA x=true)->Shp 8 0 [] ns [] 2
 | if_:Shp 9 0 [] [] [] 3
 | case_ (a b:List UInt8):kaA a=true->kaA b=true->Shp 10 0 [] [a,b] [] 3
 | obs:Shp 11 0 [] [] [] 2
 | score (p q:Int):inO 0 p=true->inO 0 q=true->Shp 12 0 [] [] [p,q] 1
 | pick (os:List Int):1<=os.length->(∀ x∈os,inO 0 x=true)->Shp 13 0 [] [] os os.length
 | flip (p q:Int):inO 0 p=true->inO 0 q=true->Shp 14 0 [] [] [p,q] 0
 | range (p q:Int):inO (-2147483647) p=true->inO (-2147483647) q=true->Shp 15 0 [] [] [p,q] 0
theorem kpZ {s:List UInt8} (h:lvl s=7):s=wNeg∨s=wNot:=by
 unfold lvl at h
 repeat' split at h
 all_goals first | (cases h;done) | (rename_i h1;exact h1.symm)
theorem kdK {α:Type}:∀ {l:List α},l.length=2->∃ a b,l=[a,b]
 | [a,b],_=>⟨a,b,rfl⟩
theorem kmX {k n:Int} {s:List UInt8} {ns:List (List UInt8)} {os:List Int} {nk:Nat} (h:shaped k n s ns os nk=true):Shp k n s ns os nk:=by
 unfold shaped at h
 by_cases k1:k=1
 · subst k1;simp at h;obtain ⟨⟨⟨⟨rfl,rfl⟩,rfl⟩,rfl⟩,h⟩:=h
   unfold inO at h;simp at h;exact .num n h.1 h.2
 rw [if_neg k1] at h
 by_cases k2:k=2
 · subst k2;simp at h;obtain ⟨⟨⟨⟨rfl,rfl⟩,rfl⟩,rfl⟩,h⟩:=h
   exact .bool n h
 rw [if_neg k2] at h
 by_cases k3:k=3
 · subst k3;simp at h;obtain ⟨⟨⟨⟨rfl,rfl⟩,rfl⟩,rfl⟩,h⟩:=h
   exact .var s h
 rw [if_neg k3] at h
 by_cases k4:k=4
 · subst k4;simp at h;obtain ⟨⟨⟨rfl,rfl⟩,rfl⟩,h⟩:=h
   exact .call s nk h
 rw [if_neg k4] at h
 by_cases k5:k=5
 · subst k5;simp at h;obtain ⟨⟨⟨⟨rfl,rfl⟩,rfl,rfl⟩,h1⟩,h2⟩:=h
   exact .tup nk h1 h2
 rw [if_neg k5] at h
 by_cases k6:k=6
 · subst k6;simp at h;obtain ⟨⟨rfl,rfl⟩,rfl,rfl⟩:=h
   exact .list nk
 rw [if_neg k6] at h
 by_cases k7:k=7
 · subst k7;simp at h;obtain ⟨⟨⟨⟨rfl,rfl⟩,rfl⟩,h0⟩,h⟩:=h
   rcases h with ⟨h1,rfl⟩ | ⟨h1,rfl⟩
   · exact .un s (kpZ h1)
   · exact .bin s h0 h1
 rw [if_neg k7] at h
 by_cases k8:k=8
 · subst k8;simp at h;obtain ⟨⟨⟨⟨⟨⟨rfl,rfl⟩,rfl⟩,rfl⟩,h1⟩,h2⟩,h3⟩:=h
   exact .let_ ns h1 h2 h3
 rw [if_neg k8] at h
 by_cases k9:k=9
 · subst k9;simp at h;obtain ⟨⟨⟨rfl,rfl⟩,rfl,rfl⟩,rfl⟩:=h
   exact .if_
 rw [if_neg k9] at h
 by_cases k10:k=10
 · subst k10;simp at h;obtain ⟨⟨⟨⟨⟨rfl,rfl⟩,rfl⟩,rfl⟩,h1⟩,h2⟩:=h
   obtain ⟨a,b,rfl⟩:=kdK h1
   exact .case_ a b (h2 a (by simp)) (h2 b (by simp))
 rw [if_neg k10] at h
 by_cases k11:k=11
 · subst k11;simp at h;obtain ⟨⟨⟨rfl,rfl⟩,rfl,rfl⟩,rfl⟩:=h
   exact .obs
 rw [if_neg k11] at h
 by_cases k12:k=12
 · subst k12;simp at h;obtain ⟨⟨⟨⟨⟨rfl,rfl⟩,rfl⟩,rfl⟩,h1⟩,h2⟩:=h
   obtain ⟨a,b,rfl⟩:=kdK h1
   exact .score a b (h2 a (by simp)) (h2 b (by simp))
 rw [if_neg k12] at h
 by_cases k13:k=13
 · subst k13;simp at h;obtain ⟨⟨⟨⟨⟨rfl,rfl⟩,rfl⟩,h0⟩,h1⟩,h2⟩:=h
   subst h1
   exact .pick os h0 h2
 rw [if_neg k13] at h
 by_cases k14:k=14
 · subst k14;simp at h;obtain ⟨⟨⟨⟨⟨rfl,rfl⟩,rfl⟩,rfl⟩,h1⟩,h2⟩:=h
   obtain ⟨a,b,rfl⟩:=kdK h1
   exact .flip a b (h2 a (by simp)) (h2 b (by simp))
 rw [if_neg k14] at h
 by_cases k15:k=15
 · subst k15;simp at h;obtain ⟨⟨⟨⟨⟨rfl,rfl⟩,rfl⟩,rfl⟩,h1⟩,h2⟩:=h
   obtain ⟨a,b,rfl⟩:=kdK h1
   exact .range a b (h2 a (by simp)) (h2 b (by simp))
 rw [if_neg k15] at h
 cases h
inductive Right:E->Prop
 | mk (k n:Int) (s:List UInt8) (ns:List (List UInt8)) (os:List Int) (ks:List E) (a b:Int):Shp k n s ns os ks.length->(∀ x∈ks,Right x)->Right (.mk k n s ns os ks a b)
inductive RightT:T->Prop
 | bool (l:List T):l=[]->RightT (.mk 1 l)
 | int (l:List T):l=[]->RightT (.mk 2 l)
 | tup (l:List T):2<=l.length->l.length<=4->(∀ x∈l,RightT x)->RightT (.mk 3 l)
 | lst (x:T):RightT x->RightT (.mk 4 [x])
theorem kcs {d:Nat}:∀ {l:List E},kcr d l=true->∀ x∈l,kaH d x=true
 | [],_,x,hx=>by cases hx
 | y :: r,h,x,hx=>by
  rw [kcr,Bool.and_eq_true] at h
  rcases List.mem_cons.1 hx with rfl | hx
  · exact h.1
  · exact kcs h.2 x hx
theorem kct {d:Nat}:∀ {l:List T},keO d l=true->∀ x∈l,ka8 d x=true
 | [],_,x,hx=>by cases hx
 | y :: r,h,x,hx=>by
  rw [keO,Bool.and_eq_true] at h
  rcases List.mem_cons.1 hx with rfl | hx
  · exact h.1
  · exact kct h.2 x hx
theorem kde:∀ (d:Nat) (e:E),kaH d e=true->Right e
 | 0,.mk ..,h=>by rw [kaH] at h;cases h
 | d+1,.mk k n s ns os ks a b,h=>by
  rw [kaH,Bool.and_eq_true] at h
  exact .mk _ _ _ _ _ _ _ _ (kmX h.1) fun x hx=>kde d x (kcs h.2 x hx)
theorem ke9:∀ (d:Nat) (t:T),ka8 d t=true->RightT t
 | 0,.mk ..,h=>by rw [ka8] at h;cases h
 | d+1,.mk k l,h=>by
  rw [ka8,Bool.and_eq_true] at h
  have ih:=fun x hx=>ke9 d x (kct h.2 x hx)
  have h1:=h.1
  by_cases k1:k=1∨k=2
  · rw [if_pos k1,List.isEmpty_iff] at h1
    rcases k1 with rfl | rfl
    · exact .bool l h1
    · exact .int l h1
  · rw [if_neg k1] at h1
    by_cases k3:k=3
    · rw [if_pos k3,Bool.and_eq_true,decide_eq_true_eq,decide_eq_true_eq] at h1
      subst k3
      exact .tup l h1.1 h1.2 ih
    · rw [if_neg k3] at h1
      by_cases k4:k=4
      · rw [if_pos k4,decide_eq_true_eq] at h1
        subst k4
        match l,h1 with
        | [x],_=>exact .lst x (ih x (by simp))
      · rw [if_neg k4] at h1;cases h1
mutual
theorem kzK:∀ (a b:E),sE a=sE b->pE a=pE b
 | .mk k n s ns os ks x y,.mk k' n' s' ns' os' ks' x' y',h=>by
  rw [sE,sE] at h
  injection h with h1 h2 h3 h4 h5 h6
  subst h1 h2 h3 h4 h5
  rw [pE,pE,kmY ks ks' h6]
theorem kmY:∀ (a b:List E),sEs a=sEs b->pKs a=pKs b
 | [],[],_=>rfl
 | [],_ :: _,h=>by rw [sEs,sEs] at h;cases h
 | _ :: _,[],h=>by rw [sEs,sEs] at h;cases h
 | x :: r,y :: q,h=>by
  rw [sEs,sEs] at h
  injection h with h1 h2
  have hk:x.rk=y.rk:=by
   cases x;cases y
   rw [sE,sE] at h1
   injection h1 with h1 h2 h3
   show Px.rk _ _=Px.rk _ _
   exact congr (congrArg Px.rk h1) h3
  rw [pKs,pKs,kzK x y h1,kmY r q h2,hk]
end
end Go.Proofs.YtaphnbaiamnfpaaGreatDoor.Px
namespace Go.Proofs.YtaphnbaiamnfpaaGreatDoor.Px
set_option linter.unusedVariables false
set_option linter.unusedSimpArgs false
open Lx (Tok bare scan tok put nm sm dg ws scan_cons_tok put_put put_nil tok_take sgn twos ones has hasB)
theorem kp0 {c:UInt8} {t:List UInt8} {k n:Int} {w:List UInt8} (h:tok (c :: t)=.ok k w n):c.toNat ≠ 10∧ws c=false∧c.toNat ≠ 35:=by
 have key:∀ d:UInt8,sm d=false->dg d=false->hasB ones d=false->d ≠ 61->d ≠ 60->d ≠ 58->c ≠ d:=by
  intro d h1 h2 h3 h4 h5 h6 e
  subst e
  unfold tok at h
  rw [if_neg (by rw [show List.headD (c :: t) 0=c from rfl,h1];decide),if_neg (by rw [show List.headD (c :: t) 0=c from rfl,h2];decide)] at h
  have:sgn (c :: t)=[]:=by
   unfold sgn
   rw [if_neg,if_neg (by rw [show List.headD (c :: t) 0=c from rfl,h3];decide)]
   intro hh
   have hm:=List.contains_iff_mem.1 hh
   have hf:∀ x∈twos,x.headD 0=61∨x.headD 0=60∨x.headD 0=58:=by decide
   have e1:((c :: t).take 2).headD 0=c:=by cases t<;>rfl
   rcases hf _ hm with e | e | e<;>rw [e1] at e
   · exact h4 e
   · exact h5 e
   · exact h6 e
  rw [if_pos this] at h
  cases h
 have n10:=key 10 (by decide) (by decide) (by decide) (by decide) (by decide) (by decide)
 have n32:=key 32 (by decide) (by decide) (by decide) (by decide) (by decide) (by decide)
 have n9:=key 9 (by decide) (by decide) (by decide) (by decide) (by decide) (by decide)
 have n13:=key 13 (by decide) (by decide) (by decide) (by decide) (by decide) (by decide)
 have n35:=key 35 (by decide) (by decide) (by decide) (by decide) (by decide) (by decide)
 have toN:∀ d:UInt8,c ≠ d->c.toNat ≠ d.toNat:=fun d hd e=>hd (UInt8.toNat_inj.1 e)
 refine ⟨toN 10 n10,?_,toN 35 n35⟩
 unfold ws
 rw [decide_eq_false (show ¬ c.toNat=32 from toN 32 n32),decide_eq_false (show ¬ c.toNat=9 from toN 9 n9),decide_eq_false (show ¬ c.toNat=13 from toN 13 n13)]
 rfl
theorem kmZ {s z:List UInt8} {k n:Int} (hs:s ≠ []) (h:tok (s++z)=.ok k s n) (line col:Int):scan (s++z) line col=put [⟨k,s,n,line,col⟩] (scan z line (col+s.length)):=by
 cases s with
 | nil=>exact absurd rfl hs
 | cons c t =>
  obtain ⟨h1,h2,h3⟩:=kp0 h
  rw [List.cons_append] at h ⊢
  rw [scan_cons_tok h1 h2 h3 h,List.length_cons,Nat.add_sub_cancel,List.drop_left]
def Cl (z:List UInt8):Prop:=nm (z.headD 32)=false
def Sc (free:Bool) (xs:List Pc):Prop:=∀ line col,∃ ts,ts.map bare=tks xs∧∃ line' col',∀ z,(free=true∨Cl z)->scan (txt xs++z) line col=put ts (scan z line' col')
def Hc (xs:List Pc):Prop:=∀ z,Cl z->Cl (txt xs++z)
theorem Hc.of {p:Pc} {r:List Pc} {c:UInt8} {t:List UInt8} (h:p.txt=c :: t) (hc:nm c=false):Hc (p :: r):=fun z _=>by
 show nm ((p.txt++txt r++z).headD 32)=false
 rw [h]
 exact hc
theorem Hc.nil:Hc []:=fun z h=>h
theorem Sc.nil:Sc true []:=fun line col=>⟨[],rfl,line,col,fun z _=>(put_nil _).symm⟩
theorem Sc.weak {xs:List Pc} (h:Sc true xs) {a:Bool}:Sc a xs:=fun line col=>by
 obtain ⟨ts,h1,l',c',h2⟩:=h line col
 exact ⟨ts,h1,l',c',fun z _=>h2 z (.inl rfl)⟩
theorem Sc.app {a b:Bool} {xs ys:List Pc} (hx:Sc b xs) (hy:Sc a ys) (hb:b=true∨Hc ys) (ha:a=true->∀ z,b=true∨Cl (txt ys++z)):Sc a (xs++ys):=fun line col=>by
 obtain ⟨ts,h1,l',c',h2⟩:=hx line col
 obtain ⟨us,h3,l2,c2,h4⟩:=hy l' c'
 refine ⟨ts++us,by rw [List.map_append,h1,h3,kaW],l2,c2,fun z hz=>?_⟩
 rw [kaD,List.append_assoc,h2 _ ?_,h4 z hz,put_put]
 rcases hb with hb | hb
 · exact .inl hb
 · rcases hz with hz | hz
   · exact ha hz z
   · exact .inr (hb z hz)
theorem Sc.cons {a:Bool} {k n:Int} {s:List UInt8} {xs:List Pc} (hs:s ≠ []) (ht:∀ z,(a=true∨Cl z)->tok (s++(txt xs++z))=.ok k s n) (hx:Sc a xs):Sc a (.t (k,s,n) :: xs):=fun line col=>by
 obtain ⟨us,h3,l2,c2,h4⟩:=hx line (col+s.length)
 refine ⟨⟨k,s,n,line,col⟩ :: us,by rw [List.map_cons,h3];rfl,l2,c2,fun z hz=>?_⟩
 show scan (s++txt xs++z) line col=_
 rw [List.append_assoc,kmZ hs (ht z hz),h4 z hz,put_put]
 rfl
theorem kzL (z:List UInt8) (line col:Int):scan (32 :: z) line col=scan z line (col+1):=by
 rw [scan,if_neg (by decide),if_pos (by decide)]
theorem ktS (z:List UInt8) (line col:Int):scan (10 :: z) line col=scan z (line+1) 1:=by
 rw [scan,if_pos (by decide)]
theorem Sc.sp {a:Bool} {xs:List Pc} (hx:Sc a xs):Sc a (.sp :: xs):=fun line col=>by
 obtain ⟨us,h3,l2,c2,h4⟩:=hx line (col+1)
 exact ⟨us,h3,l2,c2,fun z hz=>(kzL _ _ _).trans (h4 z hz)⟩
theorem Sc.nl {a:Bool} {xs:List Pc} (hx:Sc a xs):Sc a (.nl :: xs):=fun line col=>by
 obtain ⟨us,h3,l2,c2,h4⟩:=hx (line+1) 1
 exact ⟨us,h3,l2,c2,fun z hz=>(ktS _ _ _).trans (h4 z hz)⟩
def Free (s:List UInt8):Prop:=s ≠ []∧∀ z,tok (s++z)=.ok 4 s 0
theorem kbU (c:UInt8) (h1:sm c=false) (h2:dg c=false) (h3:hasB ones c=true) (h4:c ≠ 61) (h5:c ≠ 60) (h6:c ≠ 58):Free [c]:=by
 refine ⟨by simp,fun z=>?_⟩
 unfold tok
 have e:([c]++z).headD 0=c:=rfl
 rw [e,h1,h2]
 have:sgn ([c]++z)=[c]:=by
  unfold sgn
  rw [if_neg,if_pos (by rw [e];exact h3)]
  · rfl
  · intro hh
    have hm:=List.contains_iff_mem.1 hh
    have hf:∀ x∈twos,x.headD 0=61∨x.headD 0=60∨x.headD 0=58:=by decide
    have e1:(([c]++z).take 2).headD 0=c:=by cases z<;>rfl
    rcases hf _ hm with e | e | e<;>rw [e1] at e
    · exact h4 e
    · exact h5 e
    · exact h6 e
 rw [this]
 rfl
theorem kgG (a b:UInt8) (h1:sm a=false) (h2:dg a=false) (h3:has twos [a,b]=true):Free [a,b]:=by
 refine ⟨by simp,fun z=>?_⟩
 unfold tok
 have e:([a,b]++z).headD 0=a:=rfl
 rw [e,h1,h2]
 have:sgn ([a,b]++z)=[a,b]:=by
  unfold sgn
  rw [if_pos (show has twos (([a,b]++z).take 2)=true from h3)]
  rfl
 rw [this]
 rfl
theorem Sc.free {a:Bool} {s:List UInt8} {xs:List Pc} (hs:Free s) (hx:Sc a xs):Sc a (pg s :: xs):=Sc.cons hs.1 (fun z _=>hs.2 _) hx
theorem ktT (c d:UInt8) (z:List UInt8) (h1:sm c=false) (h2:dg c=false) (h3:hasB ones c=true) (h4:∀ x∈twos,x.getD 1 0 ≠ d):tok ([c]++d :: z)=.ok 4 [c] 0:=by
 unfold tok
 have e:([c]++d :: z).headD 0=c:=rfl
 rw [e,h1,h2]
 have:sgn ([c]++d :: z)=[c]:=by
  unfold sgn
  rw [if_neg,if_pos (by rw [e];exact h3)]
  · rfl
  · intro hh
    exact h4 _ (List.contains_iff_mem.1 hh) rfl
 rw [this]
 rfl
theorem Sc.sign {a:Bool} {c:UInt8} {xs:List Pc} (h1:sm c=false) (h2:dg c=false) (h3:hasB ones c=true) (hx:Sc a xs):Sc a (pg [c] :: .sp :: xs) :=
 Sc.cons (by simp) (fun z _=>ktT c 32 _ h1 h2 h3 (by decide)) (Sc.sp hx)
structure Wd (k:Int) (s:List UInt8) (n:Int):Prop where
 ne:s ≠ []
 go:∀ z,Cl z->tok (s++z)=.ok k s n
theorem Sc.word {a:Bool} {k n:Int} {s:List UInt8} {xs:List Pc} (hs:Wd k s n) (hc:Hc xs) (hc':a=true->∀ z,Cl (txt xs++z)) (hx:Sc a xs):Sc a (.t (k,s,n) :: xs) :=
 Sc.cons hs.ne (fun z hz=>hs.go _ (by
  rcases hz with hz | hz
  · exact hc' hz z
  · exact hc z hz)) hx
theorem Sc.last {k n:Int} {s:List UInt8} (hs:Wd k s n):Sc false [.t (k,s,n)]:=Sc.word hs Hc.nil (fun h=>by cases h) (Sc.weak Sc.nil)
theorem kcM {p:UInt8->Bool} (hp:∀ c,p c=true->nm c=true):∀ (s z:List UInt8),s.all p=true->Cl z->(s++z).takeWhile p=s
 | [],z,_,hz=>by
  cases z with
  | nil=>rfl
  | cons d t =>
   have:p d=false:=by
    cases h:p d with
    | false=>rfl
    | true=>have h1:nm d=false:=hz;rw [hp d h] at h1;cases h1
   rw [List.nil_append,List.takeWhile_cons_of_neg (by rw [this];decide)]
 | c :: s,z,hs,hz=>by
  rw [List.all_cons,Bool.and_eq_true] at hs
  rw [List.cons_append,List.takeWhile_cons_of_pos hs.1,kcM hp s z hs.2 hz]
theorem kdf {s:List UInt8} (h:kaA s=true):Wd 1 s 0:=by
 unfold kaA at h
 simp only [Bool.and_eq_true,decide_eq_true_eq,Bool.not_eq_true'] at h
 obtain ⟨⟨⟨h1,h2⟩,h3⟩,h4⟩:=h
 cases s with
 | nil=>cases h1
 | cons c t =>
  refine ⟨by simp,fun z hz=>?_⟩
  unfold tok
  rw [show (c :: t++z).headD 0=c from rfl,if_pos (show sm c=true from h1),kcM (fun _ h=>h) _ z h2 hz,if_neg (by omega),if_neg (by rw [h4];decide)]
theorem keP {s:List UInt8} (h1:sm (s.headD 0)=true) (h2:s.all nm=true) (h3:s.length<=24) (h4:Lx.isWord s=true):Wd 2 s 0:=by
 cases s with
 | nil=>cases h1
 | cons c t =>
  refine ⟨by simp,fun z hz=>?_⟩
  unfold tok
  rw [show (c :: t++z).headD 0=c from rfl,if_pos (show sm c=true from h1),kcM (fun _ h=>h) _ z h2 hz,if_neg (by omega),if_pos h4]
theorem khb {d:Nat} (h:d < 10):(UInt8.ofNat (48+d)).toNat=48+d:=by
 rw [UInt8.toNat_ofNat']
 omega
theorem kfa {u:Nat} (h:¬ u < 10):Go.Lib.decDigits u=Go.Lib.decDigits (u / 10)++[UInt8.ofNat (48+u % 10)]:=by rw [Go.Lib.decDigits,dif_neg h]
theorem kzM (u:Nat):(Go.Lib.decDigits u).all dg=true:=by
 induction u using Nat.strongRecOn with
 | ind u ih =>
  have one:∀ d,d < 10->dg (UInt8.ofNat (48+d))=true:=fun d hd=>by
   unfold dg
   rw [khb hd]
   simp;omega
  by_cases h:u < 10
  · rw [Go.Lib.decDigits_one h,List.all_cons,one u h];rfl
  · rw [kfa h,List.all_append,ih (u / 10) (by omega),List.all_cons,one _ (by omega)];rfl
theorem kzN (u:Nat):Lx.val (Go.Lib.decDigits u)=u:=by
 induction u using Nat.strongRecOn with
 | ind u ih =>
  by_cases h:u < 10
  · rw [Go.Lib.decDigits_one h]
    show 0*10+((UInt8.ofNat (48+u)).toNat - 48)=u
    rw [khb h];omega
  · rw [kfa h,Lx.val_snoc,ih (u / 10) (by omega),khb (by omega)];omega
theorem kxI (u:Nat):Go.Lib.decDigits u ≠ []:=by
 by_cases h:u < 10
 · rw [Go.Lib.decDigits_one h];simp
 · rw [kfa h];simp
theorem kfb {n:Int} (h:0<=n):Go.Lib.itoa n=Go.Lib.decDigits n.toNat:=by unfold Go.Lib.itoa;rw [if_neg (by omega)]
theorem kgH {n:Int} (h:n < 0):Go.Lib.itoa n=45 :: Go.Lib.decDigits n.natAbs:=by unfold Go.Lib.itoa;rw [if_pos h]
theorem kp1 {c:UInt8} (h:dg c=true):sm c=false:=by
 unfold dg at h
 unfold sm
 rw [Bool.and_eq_true,decide_eq_true_eq,decide_eq_true_eq] at h
 rw [decide_eq_false (by omega)]
 rfl
theorem kxJ {n:Int} (h0:0<=n) (h1:n<=2147483647):Wd 3 (Go.Lib.itoa n) n:=by
 rw [kfb h0]
 have ha:=kzM n.toNat
 have hv:=kzN n.toNat
 have hn:=kxI n.toNat
 cases hq:Go.Lib.decDigits n.toNat with
 | nil=>exact absurd hq hn
 | cons c t =>
  rw [hq] at ha hv
  have hc:dg c=true:=by rw [List.all_cons,Bool.and_eq_true] at ha;exact ha.1
  refine ⟨by simp,fun z hz=>?_⟩
  unfold tok
  rw [show (c :: t++z).headD 0=c from rfl,if_neg (by rw [kp1 hc];decide),if_pos hc,kcM (fun c h=>by unfold nm;rw [h];simp) _ z ha hz,hv,if_neg (by omega)]
  congr 1
  omega
theorem kdL (n:Int):txt (pnum n)=Go.Lib.itoa n:=by
 unfold pnum
 by_cases h:n < 0
 · rw [if_pos h]
   show [45]++(Go.Lib.itoa (-n)++[])=_
   rw [kgH h,kfb (by omega),List.append_nil]
   have:(-n).toNat=n.natAbs:=by omega
   rw [this]
   rfl
 · rw [if_neg h]
   show Go.Lib.itoa n++[]=_
   rw [List.append_nil]
theorem fLp:Free wLp:=kbU 40 (by decide) (by decide) (by decide) (by decide) (by decide) (by decide)
theorem fRp:Free wRp:=kbU 41 (by decide) (by decide) (by decide) (by decide) (by decide) (by decide)
theorem fLb:Free wLb:=kbU 91 (by decide) (by decide) (by decide) (by decide) (by decide) (by decide)
theorem fRb:Free wRb:=kbU 93 (by decide) (by decide) (by decide) (by decide) (by decide) (by decide)
theorem fLc:Free wLc:=kbU 123 (by decide) (by decide) (by decide) (by decide) (by decide) (by decide)
theorem fRc:Free wRc:=kbU 125 (by decide) (by decide) (by decide) (by decide) (by decide) (by decide)
theorem fCm:Free wCm:=kbU 44 (by decide) (by decide) (by decide) (by decide) (by decide) (by decide)
theorem fSc:Free wSc:=kbU 59 (by decide) (by decide) (by decide) (by decide) (by decide) (by decide)
theorem fBar:Free wBar:=kbU 124 (by decide) (by decide) (by decide) (by decide) (by decide) (by decide)
theorem fMi:Free wMi:=kbU 45 (by decide) (by decide) (by decide) (by decide) (by decide) (by decide)
theorem fSl:Free wSl:=kbU 47 (by decide) (by decide) (by decide) (by decide) (by decide) (by decide)
theorem fAr:Free wAr:=kgG 61 62 (by decide) (by decide) (by decide)
theorem fCc:Free wCc:=kgG 58 58 (by decide) (by decide) (by decide)
theorem Sc.num {n:Int} (h0:-2147483647<=n) (h1:n<=2147483647):Sc false (pnum n):=by
 unfold pnum
 by_cases h:n < 0
 · rw [if_pos h]
   exact Sc.free fMi (Sc.last (kxJ (by omega) (by omega)))
 · rw [if_neg h]
   exact Sc.last (kxJ (by omega) h1)
end Go.Proofs.YtaphnbaiamnfpaaGreatDoor.Px
namespace Go.Proofs.YtaphnbaiamnfpaaGreatDoor.Px
set_option linter.unusedVariables false
set_option linter.unusedSimpArgs false
open Lx (Tok bare scan tok put nm sm dg)
theorem Sc.on {b:Bool} {xs ys:List Pc} (hx:Sc b xs) (hy:Sc false ys) (hc:Hc ys):Sc false (xs++ys):=Sc.app hx hy (.inr hc) (fun h=>by cases h)
theorem Sc.wd {k n:Int} {s:List UInt8} {xs:List Pc} (hs:Wd k s n) (hc:Hc xs) (hx:Sc false xs):Sc false (.t (k,s,n) :: xs):=Sc.word hs hc (fun h=>by cases h) hx
theorem Hc.sp {r:List Pc}:Hc (.sp :: r):=Hc.of (p:=.sp) rfl (by decide)
theorem Hc.lp {r:List Pc}:Hc (pg wLp :: r):=Hc.of (p:=pg wLp) rfl (by decide)
theorem Hc.rp {r:List Pc}:Hc (pg wRp :: r):=Hc.of (p:=pg wRp) rfl (by decide)
theorem Hc.rb {r:List Pc}:Hc (pg wRb :: r):=Hc.of (p:=pg wRb) rfl (by decide)
theorem Hc.cm {r:List Pc}:Hc (pg wCm :: r):=Hc.of (p:=pg wCm) rfl (by decide)
theorem Hc.cl {r:List Pc}:Hc (pg wCl :: r):=Hc.of (p:=pg wCl) rfl (by decide)
theorem Hc.sl {r:List Pc}:Hc (pg wSl :: r):=Hc.of (p:=pg wSl) rfl (by decide)
theorem Hc.sc {r:List Pc}:Hc (pg wSc :: r):=Hc.of (p:=pg wSc) rfl (by decide)
theorem Hc.nl {r:List Pc}:Hc (.nl :: r):=Hc.of (p:=.nl) rfl (by decide)
theorem Sc.end0:Sc false []:=Sc.weak Sc.nil
theorem Sc.rp:Sc false [pg wRp]:=Sc.free fRp Sc.end0
theorem Sc.rb:Sc false [pg wRb]:=Sc.free fRb Sc.end0
theorem Sc.commas:∀ l:List (List Pc),(∀ x∈l,Sc false x)->Sc false (commas l)
 | [],_=>Sc.end0
 | [x],h=>h x (by simp)
 | x :: y :: r,h=>Sc.on (h x (by simp)) (Sc.free fCm (Sc.sp (Sc.commas (y :: r) fun z hz=>h z (List.mem_cons_of_mem _ hz)))) Hc.cm
theorem Sc.par {m:Nat} {x:Nat × List Pc} (h:Sc false x.2):Sc false (par m x):=by
 unfold Px.par
 by_cases hm:x.1 < m
 · rw [if_pos hm];exact Sc.free fLp (Sc.on h Sc.rp Hc.rp)
 · rw [if_neg hm];exact h
theorem kw {s:List UInt8} (h1:sm (s.headD 0)=true) (h2:s.all nm=true) (h3:s.length<=24) (h4:Lx.isWord s=true) {xs:List Pc} (hx:Sc false xs):Sc false (pwd s :: .sp :: xs) :=
 Sc.wd (keP h1 h2 h3 h4) Hc.sp (Sc.sp hx)
theorem Sc.pop {s:List UInt8} (h0:0 < lvl s) (h7:lvl s < 7) {xs:List Pc} (hx:Sc false xs):Sc false (pop s :: .sp :: xs):=by
 unfold Px.pop
 by_cases h:s=wOr∨s=wAnd
 · rw [if_pos h]
   rcases h with rfl | rfl
   · exact kw (by decide) (by decide) (by decide) (by decide) hx
   · exact kw (by decide) (by decide) (by decide) (by decide) hx
 · rw [if_neg h]
   have hs:s=kia∨s=wLt∨s=wLe∨s=wCc∨s=wPl∨s=wMi∨s=wTi∨s=wSl∨s=wPc:=by
    unfold lvl at h0 h7
    by_cases a1:s=wOr
    · exact absurd (.inl a1) h
    rw [if_neg a1] at h0 h7
    by_cases a2:s=wAnd
    · exact absurd (.inr a2) h
    rw [if_neg a2] at h0 h7
    by_cases a3:s=kia∨s=wLt∨s=wLe
    · rcases a3 with a | a | a<;>simp [a]
    rw [if_neg a3] at h0 h7
    by_cases a4:s=wCc
    · simp [a4]
    rw [if_neg a4] at h0 h7
    by_cases a5:s=wPl∨s=wMi
    · rcases a5 with a | a<;>simp [a]
    rw [if_neg a5] at h0 h7
    by_cases a6:s=wTi∨s=wSl∨s=wPc
    · rcases a6 with a | a | a<;>simp [a]
    rw [if_neg a6] at h0 h7
    by_cases a7:s=wNot∨s=wNeg
    · rw [if_pos a7] at h7;omega
    · rw [if_neg a7] at h0;omega
   rcases hs with rfl | rfl | rfl | rfl | rfl | rfl | rfl | rfl | rfl
   · exact Sc.free (kgG 61 61 (by decide) (by decide) (by decide)) (Sc.sp hx)
   · exact Sc.sign (by decide) (by decide) (by decide) hx
   · exact Sc.free (kgG 60 61 (by decide) (by decide) (by decide)) (Sc.sp hx)
   · exact Sc.free fCc (Sc.sp hx)
   all_goals exact Sc.sign (by decide) (by decide) (by decide) hx
theorem kd_in {ks:List E} {i:Nat} (h:i < ks.length):kd (pKs ks) i=(ks[i].rk,pE ks[i]):=by
 unfold kd
 rw [kha,List.getD_eq_getElem?_getD,List.getElem?_map,List.getElem?_eq_getElem h]
 rfl
theorem Sc.names {ns:List (List UInt8)} (h:∀ x∈ns,kaA x=true):Sc false (letn ns):=by
 unfold letn
 split
 · rename_i x
   exact Sc.last (kdf (h x (by simp)))
 · refine Sc.free fLp (Sc.on (Sc.commas _ fun y hy=>?_) Sc.rp Hc.rp)
   obtain ⟨x,hx,rfl⟩:=List.mem_map.1 hy
   exact Sc.last (kdf (h x hx))
theorem keQ {lo o:Int}:inO lo o=true ↔ lo<=o∧o<=2147483647:=by unfold inO;simp
theorem Sc.num0 {o:Int} (h:inO 0 o=true):Sc false (pnum o):=by
 rw [keQ] at h
 exact Sc.num (by omega) h.2
theorem Sc.num1 {o:Int} (h:inO (-2147483647) o=true):Sc false (pnum o):=by
 rw [keQ] at h
 exact Sc.num h.1 h.2
theorem Sc.picks:∀ (os:List Int) (L:List (Nat × List Pc)),(∀ o∈os,inO 0 o=true)->(∀ x∈L,Sc false x.2)->∀ y∈picks os L,Sc false y
 | [],_,_,_,y,hy=>by cases hy
 | _ :: _,[],_,_,y,hy=>by cases hy
 | o :: os,x :: L,ho,hL,y,hy=>by
  rcases List.mem_cons.1 hy with rfl | hy
  · exact Sc.on (Sc.num0 (ho o (by simp))) (Sc.sign (by decide) (by decide) (by decide) (hL x (by simp))) Hc.cl
  · exact Sc.picks os L (fun z hz=>ho z (List.mem_cons_of_mem _ hz)) (fun z hz=>hL z (List.mem_cons_of_mem _ hz)) y hy
theorem sc_E:∀ (e:E),Right e->Sc false (pE e):=by
 intro e he
 induction he with
 | mk k n s ns os ks a b hs _ ih =>
  rw [pE]
  have hL:∀ x∈pKs ks,Sc false x.2:=fun x hx=>by
   rw [kha] at hx
   obtain ⟨y,hy,rfl⟩:=List.mem_map.1 hx
   exact ih y hy
  have hM:∀ x∈(pKs ks).map (·.2),Sc false x:=fun x hx=>by
   obtain ⟨y,hy,rfl⟩:=List.mem_map.1 hx
   exact hL y hy
  have hk:∀ i,i < ks.length->Sc false (kd (pKs ks) i).2:=fun i hi=>by
   rw [kd_in hi]
   exact ih _ (List.getElem_mem hi)
  generalize hn:ks.length=m at hs
  cases hs with
  | num _ h1 h2=>exact Sc.num (by omega) h2
  | bool _ h =>
   rcases h with rfl | rfl
   · exact Sc.last (keP (by decide) (by decide) (by decide) (by decide))
   · exact Sc.last (keP (by decide) (by decide) (by decide) (by decide))
  | var _ h=>exact Sc.last (kdf h)
  | call _ _ h=>exact Sc.wd (kdf h) Hc.lp (Sc.free fLp (Sc.on (Sc.commas _ hM) Sc.rp Hc.rp))
  | tup _ h1 h2=>exact Sc.free fLp (Sc.on (Sc.commas _ hM) Sc.rp Hc.rp)
  | list=>exact Sc.free fLb (Sc.on (Sc.commas _ hM) Sc.rb Hc.rb)
  | un _ h =>
   show Sc false (opf s _)
   unfold opf
   rcases h with rfl | rfl
   · rw [if_pos rfl];exact Sc.free fMi (Sc.par (hk 0 (by omega)))
   · rw [if_neg (by decide),if_pos rfl];exact kw (by decide) (by decide) (by decide) (by decide) (Sc.par (hk 0 (by omega)))
  | bin _ h1 h2 =>
   show Sc false (opf s _)
   unfold opf
   rw [if_neg (fun e=>by subst e;exact absurd h2 (by decide)),if_neg (fun e=>by subst e;exact absurd h2 (by decide))]
   exact Sc.on (Sc.par (hk 0 (by omega))) (Sc.sp (Sc.pop h1 h2 (Sc.par (hk 1 (by omega))))) Hc.sp
  | let_ _ h1 h2 h3 =>
   exact kw (by decide) (by decide) (by decide) (by decide) (Sc.on (Sc.names h3) (Sc.sp (Sc.sign (by decide) (by decide) (by decide) (Sc.on (hk 0 (by omega)) (Sc.sp (kw (by decide) (by decide) (by decide) (by decide) (hk 1 (by omega)))) Hc.sp))) Hc.sp)
  | if_=>exact kw (by decide) (by decide) (by decide) (by decide) (Sc.on (hk 0 (by omega)) (Sc.sp (kw (by decide) (by decide) (by decide) (by decide) (Sc.on (hk 1 (by omega)) (Sc.sp (kw (by decide) (by decide) (by decide) (by decide) (hk 2 (by omega)))) Hc.sp))) Hc.sp)
  | case_ a b h1 h2 =>
   exact kw (by decide) (by decide) (by decide) (by decide) (Sc.on (hk 0 (by omega)) (Sc.sp (kw (by decide) (by decide) (by decide) (by decide) (Sc.free fLb (Sc.free fRb (Sc.sp (Sc.free fAr (Sc.sp (Sc.on (hk 1 (by omega))
    (Sc.sp (Sc.free fBar (Sc.sp (Sc.wd (kdf h1) Hc.sp (Sc.sp (Sc.free fCc (Sc.sp (Sc.wd (kdf h2) Hc.sp (Sc.sp (Sc.free fAr (Sc.sp (hk 2 (by omega))))))))))))) Hc.sp)))))))) Hc.sp)
  | obs=>exact kw (by decide) (by decide) (by decide) (by decide) (Sc.on (hk 0 (by omega)) (Sc.sp (kw (by decide) (by decide) (by decide) (by decide) (hk 1 (by omega)))) Hc.sp)
  | score p q h1 h2=>exact kw (by decide) (by decide) (by decide) (by decide) (Sc.on (Sc.num0 h1) (Sc.free fSl (Sc.on (Sc.num0 h2) (Sc.sp (kw (by decide) (by decide) (by decide) (by decide) (hk 0 (by omega)))) Hc.sp)) Hc.sl)
  | pick _ h1 h2=>exact kw (by decide) (by decide) (by decide) (by decide) (Sc.free fLc (Sc.sp (Sc.on (Sc.commas _ (Sc.picks _ _ h2 hL)) (Sc.sp (Sc.free fRc Sc.end0)) Hc.sp)))
  | flip p q h1 h2=>exact Sc.wd (keP (by decide) (by decide) (by decide) (by decide)) Hc.lp (Sc.free fLp (Sc.on (Sc.num0 h1) (Sc.free fSl (Sc.on (Sc.num0 h2) Sc.rp Hc.rp)) Hc.sl))
  | range p q h1 h2=>exact Sc.wd (keP (by decide) (by decide) (by decide) (by decide)) Hc.lp (Sc.free fLp (Sc.on (Sc.num1 h1) (Sc.free fCm (Sc.sp (Sc.on (Sc.num1 h2) Sc.rp Hc.rp))) Hc.cm))
theorem sc_T:∀ (t:T),RightT t->Sc false (pT t):=by
 intro t ht
 induction ht with
 | bool l h=>rw [pT];exact Sc.last (keP (by decide) (by decide) (by decide) (by decide))
 | int l h=>rw [pT];exact Sc.last (keP (by decide) (by decide) (by decide) (by decide))
 | tup l _ _ _ ih =>
  rw [pT,ki2]
  refine Sc.free fLp (Sc.on (Sc.commas _ fun x hx=>?_) Sc.rp Hc.rp)
  obtain ⟨y,hy,rfl⟩:=List.mem_map.1 hx
  exact ih y hy
 | lst x _ ih =>
  rw [pT,pTs,pTs]
  exact Sc.free fLb (Sc.on (Sc.commas _ fun y hy=>by rw [List.mem_singleton] at hy;rw [hy];exact ih) Sc.rb Hc.rb)
theorem ki3 {f:Fld} (h:kbu f=true):kaA f.name=true∧RightT f.typ:=by
 unfold kbu at h
 rw [Bool.and_eq_true] at h
 exact ⟨h.1,ke9 _ _ h.2⟩
theorem sc_F {f:Fld} (h:kbu f=true):Sc false (pF f):=Sc.wd (kdf (ki3 h).1) Hc.cl (Sc.sign (by decide) (by decide) (by decide) (sc_T _ (ki3 h).2))
theorem kCR:∀ (l:List Fld) (xs:List Pc),l.all kbu=true->Sc false xs->Sc false (pIn l++xs)
 | [],xs,_,hx=>hx
 | f :: r,xs,h,hx=>by
  rw [List.all_cons,Bool.and_eq_true] at h
  show Sc false (pwd kdy :: .sp :: (pF f++pg wSc :: .nl :: pIn r++xs))
  rw [List.append_assoc]
  exact kw (by decide) (by decide) (by decide) (by decide) (Sc.on (sc_F h.1) (Sc.free fSc (Sc.nl (kCR r xs h.2 hx))) Hc.sc)
theorem sc_Fn {g:Fnc} (h:kby g=true) (xs:List Pc) (hx:Sc false xs):Sc false (pFn g++xs):=by
 unfold kby at h
 simp only [Bool.and_eq_true] at h
 obtain ⟨⟨⟨h1,h2⟩,h3⟩,h4⟩:=h
 unfold pFn
 simp only [List.cons_append,List.append_assoc,List.nil_append]
 refine kw (by decide) (by decide) (by decide) (by decide) (Sc.wd (kdf h2) Hc.lp (Sc.free fLp (Sc.on (Sc.commas _ fun y hy=>?_) (Sc.free fRp (Sc.sign (by decide) (by decide) (by decide)
  (Sc.on (sc_T _ (ke9 _ _ h3)) (Sc.sp (Sc.sign (by decide) (by decide) (by decide) (Sc.on (sc_E _ (kde _ _ h4)) (Sc.free fSc (Sc.nl hx)) Hc.sc))) Hc.sp))) Hc.rp)))
 obtain ⟨f,hf,rfl⟩:=List.mem_map.1 hy
 exact sc_F (List.all_eq_true.1 h1 f hf)
theorem kxK:∀ (l:List Fnc) (xs:List Pc),l.all kby=true->Sc false xs->Sc false (pFns l++xs)
 | [],xs,_,hx=>hx
 | f :: r,xs,h,hx=>by
  rw [List.all_cons,Bool.and_eq_true] at h
  show Sc false (pFn f++pFns r++xs)
  rw [List.append_assoc]
  exact sc_Fn h.1 _ (kxK r xs h.2 hx)
theorem sc_P {p:Pg} (h:kbT p=true):Sc false (pP p):=by
 unfold kbT at h
 simp only [Bool.and_eq_true] at h
 exact kCR _ _ h.1.1 (kxK _ _ h.1.2 (Sc.on (sc_E _ (kde _ _ h.2)) (Sc.nl Sc.end0) Hc.nl))
theorem km0 {xs:List Pc} (h:Sc false xs) (line col:Int):∃ ts,scan (txt xs) line col=.ok ts∧ts.map bare=tks xs++[(5,[],0)]:=by
 obtain ⟨ts,h1,l',c',h2⟩:=h line col
 have:=h2 [] (.inr (show nm 32=false by decide))
 rw [List.append_nil] at this
 refine ⟨ts++[⟨5,[],0,l',c'⟩],by rw [this,scan];rfl,by rw [List.map_append,h1];rfl⟩
theorem kfc {s:List UInt8} (h:kaA s=true):∃ a b c d,scan s 1 1=.ok [⟨1,s,0,a,b⟩,⟨5,[],0,c,d⟩]:=by
 have hw:=kdf h
 have:=kmZ (z:=[]) hw.ne (hw.go [] (show nm 32=false by decide)) 1 1
 rw [List.append_nil] at this
 exact ⟨1,1,1,_,by rw [this,scan];rfl⟩
end Go.Proofs.YtaphnbaiamnfpaaGreatDoor.Px
namespace Go.Proofs.YtaphnbaiamnfpaaGreatDoor.Px
set_option linter.unusedVariables false
set_option linter.unusedSimpArgs false
open Lx (Tok bare scan tok nm sm dg takeWhile_all)
theorem ktU {s:List UInt8} {n:Int} (h:tok s=.ok 1 s n):kaA s=true:=by
 unfold tok at h
 by_cases h1:sm (s.headD 0)=true
 · rw [if_pos h1] at h
   by_cases h2:24 < (s.takeWhile nm).length
   · rw [if_pos h2] at h;cases h
   · rw [if_neg h2] at h
     by_cases h3:Lx.isWord (s.takeWhile nm)=true
     · rw [if_pos h3] at h;cases h
     · rw [if_neg h3] at h
       have e:s.takeWhile nm=s:=by injection h
       rw [e] at h2 h3
       have ha:s.all nm=true:=List.all_eq_true.2 fun c hc=>takeWhile_all nm s c (by rw [e];exact hc)
       unfold kaA
       rw [h1,ha,decide_eq_true (by omega:s.length<=24)]
       cases hq:Lx.isWord s with
       | true=>exact absurd hq h3
       | false=>rfl
 · rw [if_neg h1] at h
   by_cases h2:dg (s.headD 0)=true
   · rw [if_pos h2] at h
     split at h
     · cases h
     · injection h with hk _ _;cases hk
   · rw [if_neg h2] at h
     split at h
     · cases h
     · injection h with hk _ _;cases hk
theorem kkb {s:List UInt8} {ts:List Tok} (h:scan s 1 1=.ok ts) (h0:0 < ts.length) (hk:(tk ts 0).kind=1) (ht:(tk ts 0).text=s):kaA s=true:=by
 obtain ⟨p,hp⟩:=Lx.scan_at s.length s 1 1 ts (Nat.le_refl _) h 0 h0
 rcases hp.what with ⟨_,h5⟩ | ⟨_,h5⟩
 · omega
 · have h6:=Lx.tok_take h5
   rw [ht] at h5 h6
   have hl:s.length<=(s.drop p).length:=by
    have:=congrArg List.length h6.1
    rw [List.length_take] at this
    omega
   rw [List.length_drop] at hl
   have hne:0 < s.length:=List.length_pos_iff.2 h6.2
   have:p=0:=by omega
   subst this
   rw [List.drop_zero,hk] at h5
   exact ktU h5
end Go.Proofs.YtaphnbaiamnfpaaGreatDoor.Px
namespace Go.Proofs.YtaphnbaiamnfpaaGreatDoor.Px
set_option linter.unusedVariables false
set_option linter.unusedSimpArgs false
theorem wEs_len:∀ l:List E,l.length<=wEs l
 | []=>by rw [wEs];exact Nat.le_refl _
 | x :: r=>by
  have:=wEs_len r
  have:=kxH x
  rw [wEs,List.length_cons]
  omega
theorem wT_pos (t:T):1<=wT t:=by cases t;rw [wT];omega
theorem wTs_len:∀ l:List T,l.length<=wTs l
 | []=>by rw [wTs];exact Nat.le_refl _
 | x :: r=>by
  have:=wTs_len r
  have:=wT_pos x
  rw [wTs,List.length_cons]
  omega
theorem wFs_len:∀ l:List Fld,l.length<=wFs l
 | []=>Nat.le_refl _
 | x :: r=>by
  have:=wFs_len r
  have:=wT_pos x.typ
  rw [wFs,List.length_cons,wF]
  omega
theorem wFs_mem:∀ (l:List Fld) (x:Fld),x∈l->wT x.typ<=wFs l
 | y :: r,x,h=>by
  rw [wFs]
  rcases List.mem_cons.1 h with rfl | h
  · rw [wF];omega
  · have:=wFs_mem r x h;omega
theorem wFns_len:∀ l:List Fnc,l.length<=wFns l
 | []=>Nat.le_refl _
 | x :: r=>by
  have:=wFns_len r
  rw [wFns,List.length_cons,wFn]
  omega
theorem wFns_mem:∀ (l:List Fnc) (x:Fnc),x∈l->wFn x<=wFns l
 | y :: r,x,h=>by
  rw [wFns]
  rcases List.mem_cons.1 h with rfl | h
  · omega
  · have:=wFns_mem r x h;omega
mutual
def kes:E->E->Bool
 | .mk k n s ns os ks _ _,.mk k' n' s' ns' os' ks' _ _=>(k==k')&&((n==n')&&(decide (s=s')&&(decide (ns=ns')&&(decide (os=os')&&keA ks ks'))))
def keA:List E->List E->Bool
 | [],[]=>true
 | x :: a,y :: b=>kes x y&&keA a b
 | [],_ :: _=>false
 | _ :: _,[]=>false
end
mutual
def kdM:T->T->Bool
 | .mk k l,.mk k' l'=>(k==k')&&keB l l'
def keB:List T->List T->Bool
 | [],[]=>true
 | x :: a,y :: b=>kdM x y&&keB a b
 | [],_ :: _=>false
 | _ :: _,[]=>false
end
def eqL {α:Type} (f:α->α->Bool):List α->List α->Bool
 | [],[]=>true
 | x :: a,y :: b=>f x y&&eqL f a b
 | [],_ :: _=>false
 | _ :: _,[]=>false
theorem keR {α:Type} (f:α->α->Bool):∀ a b:List α,a.length ≠ b.length->eqL f a b=false
 | [],[],h=>absurd rfl h
 | x :: a,y :: b,h=>by rw [eqL,keR f a b (by simpa using h),Bool.and_false]
 | [],_ :: _,_=>rfl
 | _ :: _,[],_=>rfl
theorem kkc:∀ a b:List E,keA a b=eqL kes a b
 | [],[]=>by rw [keA,eqL]
 | x :: a,y :: b=>by rw [keA,eqL,kkc a b]
 | [],_ :: _=>by rw [keA,eqL]
 | _ :: _,[]=>by rw [keA,eqL]
theorem kkd:∀ a b:List T,keB a b=eqL kdM a b
 | [],[]=>by rw [keB,eqL]
 | x :: a,y :: b=>by rw [keB,eqL,kkd a b]
 | [],_ :: _=>by rw [keB,eqL]
 | _ :: _,[]=>by rw [keB,eqL]
theorem ktV (a b:E):kes a b=((a.k==b.k)&&((a.n==b.n)&&(decide (a.name=b.name)&&(decide (a.names=b.names)&&(decide (a.odds=b.odds)&&eqL kes a.kids b.kids))))):=by
 cases a;cases b
 rw [kes,kkc]
 rfl
theorem ktW (a b:T):kdM a b=((a.k==b.k)&&eqL kdM a.l b.l):=by
 cases a;cases b
 rw [kdM,kkd]
 rfl
def kfd (a b:Fld):Bool:=decide (a.name=b.name)&&kdM a.typ b.typ
def kdN (a b:Fnc):Bool:=decide (a.name=b.name)&&(eqL kfd a.params b.params&&(kdM a.res b.res&&kes a.body b.body))
def ktX (a b:Pg):Bool:=eqL kfd a.inputs b.inputs&&(eqL kdN a.funs b.funs&&kes a.query b.query)
theorem kp2 {α:Type} [DecidableEq α]:∀ a b:List α,eqL (fun x y=>decide (x=y)) a b=decide (a=b)
 | [],[]=>by simp [eqL]
 | x :: a,y :: b=>by rw [eqL,kp2 a b];simp
 | [],_ :: _=>by simp [eqL]
 | _ :: _,[]=>by simp [eqL]
mutual
theorem kdg:∀ a b:E,sE a=sE b->kes a b=true
 | .mk k n s ns os ks _ _,.mk k' n' s' ns' os' ks' _ _,h=>by
  rw [ktR,ktR] at h
  injection h with h1 h2 h3 h4 h5 h6
  rw [kes,h1,h2,h3,h4,h5,kgo ks ks' h6]
  simp
theorem kgo:∀ a b:List E,sEs a=sEs b->keA a b=true
 | [],[],_=>by rw [keA]
 | x :: a,y :: b,h=>by
  rw [kcL,kcL] at h
  injection h with h1 h2
  rw [keA,kdg x y h1,kgo a b h2]
  rfl
 | [],y :: b,h=>by rw [ki1,kcL] at h;cases h
 | x :: a,[],h=>by rw [ki1,kcL] at h;cases h
end
mutual
theorem kfR:∀ a:T,kdM a a=true
 | .mk k l=>by rw [kdM,khc l];simp
theorem khc:∀ a:List T,keB a a=true
 | []=>by rw [keB]
 | x :: a=>by rw [keB,kfR x,khc a];rfl
end
theorem khd {a b:Fld} (h:sF a=sF b):kfd a b=true:=by
 unfold sF at h
 injection h with h1 h2
 unfold kfd
 rw [h1,h2,kfR]
 simp
theorem kfe {α:Type} {f:α->α->Bool} {s:α->α} (H:∀ a b,s a=s b->f a b=true):∀ a b:List α,a.map s=b.map s->eqL f a b=true
 | [],[],_=>rfl
 | x :: a,y :: b,h=>by
  rw [List.map_cons,List.map_cons] at h
  injection h with h1 h2
  rw [eqL,H x y h1,kfe H a b h2]
  rfl
 | [],_ :: _,h=>by cases h
 | _ :: _,[],h=>by cases h
theorem kke {a b:Fnc} (h:sFn a=sFn b):kdN a b=true:=by
 unfold sFn at h
 injection h with h1 h2 h3 h4
 unfold kdN
 rw [h1,h3,kfR,kfe (f:=kfd) (fun a b h=>khd h) _ _ h2,kdg _ _ h4]
 simp
theorem kln {a b:Pg} (h:sP a=sP b):ktX a b=true:=by
 unfold sP at h
 injection h with h1 h2 h3
 unfold ktX
 rw [kfe (f:=kfd) (fun a b h=>khd h) _ _ h1,kfe (f:=kdN) (fun a b h=>kke h) _ _ h2,kdg _ _ h3]
 rfl
mutual
def LenE:E->Prop
 | .mk _ _ _ ns os ks _ _=>(ns.length<=140737488351232∧os.length<=140737488351232∧ks.length<=140737488351232)∧kff ks
def kff:List E->Prop
 | []=>True
 | x :: r=>LenE x∧kff r
end
mutual
def LenT:T->Prop
 | .mk _ l=>l.length<=140737488351232∧kfg l
def kfg:List T->Prop
 | []=>True
 | x :: r=>LenT x∧kfg r
end
structure LenFn (f:Fnc):Prop where
 par:f.params.length<=140737488351232
 typ:∀ x∈f.params,LenT x.typ
 res:LenT f.res
 body:LenE f.body
structure LenP (p:Pg):Prop where
 inl:p.inputs.length<=140737488351232
 inp:∀ x∈p.inputs,LenT x.typ
 fl:p.funs.length<=140737488351232
 fn:∀ x∈p.funs,LenFn x
 query:LenE p.query
mutual
theorem kp3:∀ e:E,wE e<=140737488351232->LenE e
 | .mk k n s ns os ks a b,h=>by
  rw [wE] at h
  rw [LenE]
  have:=wEs_len ks
  exact ⟨⟨by omega,by omega,by omega⟩,km1 ks (by omega)⟩
theorem km1:∀ l:List E,wEs l<=140737488351232->kff l
 | [],_=>by rw [kff];trivial
 | x :: r,h=>by
  rw [wEs] at h
  rw [kff]
  exact ⟨kp3 x (by omega),km1 r (by omega)⟩
end
mutual
theorem kzO:∀ t:T,wT t<=140737488351232->LenT t
 | .mk k l,h=>by
  rw [wT] at h
  rw [LenT]
  have:=wTs_len l
  exact ⟨by omega,km2 l (by omega)⟩
theorem km2:∀ l:List T,wTs l<=140737488351232->kfg l
 | [],_=>by rw [kfg];trivial
 | x :: r,h=>by
  rw [wTs] at h
  rw [kfg]
  exact ⟨kzO x (by omega),km2 r (by omega)⟩
end
def tE (e:E):List UInt8:=txt (pE e)
def cmr:List (List UInt8)->List UInt8
 | []=>[]
 | x :: r=>[44,32]++x++cmr r
def cms:List (List UInt8)->List UInt8
 | []=>[]
 | x :: r=>x++cmr r
theorem kbG:∀ l:List (List Pc),txt (commas l)=cms (l.map txt)
 | []=>rfl
 | [x]=>by rw [commas];show _=txt x++[];rw [List.append_nil]
 | x :: y :: r=>by
  have ih:=kbG (y :: r)
  rw [commas,kaD]
  show txt x++([44]++([32]++txt (commas (y :: r))))=txt x++([44,32]++txt y++cmr (r.map txt))
  rw [ih]
  simp [cms]
theorem ki4 (ks:List E):((pKs ks).map (·.2)).map txt=ks.map tE:=by
 rw [kha,List.map_map,List.map_map];rfl
def tAt (m:Nat) (e:E):List UInt8:=if e.rk < m then [40]++tE e++[41] else tE e
theorem ki5 (m:Nat) (e:E):txt (par m (e.rk,pE e))=tAt m e:=by
 unfold par tAt
 by_cases h:e.rk < m
 · rw [if_pos h,if_pos h]
   show [40]++txt (pE e++[pg wRp])=_
   rw [kaD]
   simp [tE,txt,Pc.txt,wRp]
 · rw [if_neg h,if_neg h];rfl
theorem kd0 (x:E) (r:List E):kd (pKs (x :: r)) 0=(x.rk,pE x):=by rw [pKs];rfl
theorem kd1 (x y:E) (r:List E):kd (pKs (x :: y :: r)) 1=(y.rk,pE y):=by rw [pKs,pKs];rfl
theorem kd2 (x y z:E) (r:List E):kd (pKs (x :: y :: z :: r)) 2=(z.rk,pE z):=by rw [pKs,pKs,pKs];rfl
section
variable (a b:Int)
theorem kp4 (n:Int):tE (.mk 1 n [] [] [] [] a b)=Go.Lib.itoa n:=by
 unfold tE;rw [pE];exact kdL n
theorem klo (n:Int):tE (.mk 2 n [] [] [] [] a b)=if n=1 then kgC else kdx:=by
 unfold tE;rw [pE];exact List.append_nil _
theorem kp5 (s:List UInt8):tE (.mk 3 0 s [] [] [] a b)=s:=by
 unfold tE;rw [pE];exact List.append_nil _
theorem klp (s:List UInt8) (ks:List E):tE (.mk 4 0 s [] [] ks a b)=s++[40]++cms (ks.map tE)++[41]:=by
 unfold tE;rw [pE]
 show s++([40]++txt (commas ((pKs ks).map (·.2))++[pg wRp]))=_
 rw [kaD,kbG,ki4]
 simp [txt,Pc.txt,wRp];rfl
theorem kp6 (ks:List E):tE (.mk 5 0 [] [] [] ks a b)=[40]++cms (ks.map tE)++[41]:=by
 unfold tE;rw [pE]
 show ([40]++txt (commas ((pKs ks).map (·.2))++[pg wRp]))=_
 rw [kaD,kbG,ki4]
 simp [txt,Pc.txt,wRp];rfl
theorem klq (ks:List E):tE (.mk 6 0 [] [] [] ks a b)=[91]++cms (ks.map tE)++[93]:=by
 unfold tE;rw [pE]
 show ([91]++txt (commas ((pKs ks).map (·.2))++[pg wRb]))=_
 rw [kaD,kbG,ki4]
 simp [txt,Pc.txt,wRb];rfl
theorem kxL (x:E):tE (.mk 7 0 wNeg [] [] [x] a b)=[45]++tAt 7 x:=by
 unfold tE;rw [pE]
 show [45]++txt (par 7 (kd (pKs [x]) 0))=_
 rw [kd0,ki5]
theorem kxM (x:E):tE (.mk 7 0 wNot [] [] [x] a b)=[110,111,116,32]++tAt 7 x:=by
 unfold tE;rw [pE]
 show [110,111,116]++([32]++txt (par 7 (kd (pKs [x]) 0)))=_
 rw [kd0,ki5];rfl
theorem kzP (s:List UInt8):(pop s).txt=s:=by unfold pop;split<;>rfl
theorem kxN (s:List UInt8) (x y:E) (h:lvl s < 7):tE (.mk 7 0 s [] [] [x,y] a b)=tAt (lft s) x++[32]++s++[32]++tAt (rgt s) y:=by
 have h1:s ≠ wNeg:=by intro e;subst e;revert h;decide
 have h2:s ≠ wNot:=by intro e;subst e;revert h;decide
 unfold tE;rw [pE]
 show txt (opf s (pKs [x,y]))=_
 unfold opf
 rw [if_neg h1,if_neg h2,kd0,kd1,kaD,ki5]
 show tAt (lft s) x++([32]++((pop s).txt++([32]++txt (par (rgt s) (y.rk,pE y)))))=_
 rw [ki5,kzP]
 simp
def tNs (ns:List (List UInt8)):List UInt8 :=
 match ns with
 | [x]=>x
 | l=>[40]++cms l++[41]
theorem ktY (ns:List (List UInt8)):txt (letn ns)=tNs ns:=by
 match ns with
 | [x]=>exact List.append_nil _
 | []=>rfl
 | x :: y :: r =>
  show [40]++txt (commas (([x,y]++r).map fun x=>[pn x])++[pg wRp])=[40]++cms (x :: y :: r)++[41]
  rw [kaD,kbG,List.map_map]
  have e:([x,y]++r).map (txt ∘ fun x=>[pn x])=x :: y :: r:=by
   rw [show (txt ∘ fun x=>[pn x])=id from funext fun z=>List.append_nil z,List.map_id];rfl
  rw [e]
  simp [txt,Pc.txt,wRp]
theorem kkf (ns:List (List UInt8)) (x y:E):tE (.mk 8 0 [] ns [] [x,y] a b)=[108,101,116,32]++tNs ns++[32,61,32]++tE x++[32,105,110,32]++tE y:=by
 unfold tE;rw [pE]
 show [108,101,116]++([32]++txt (letn ns++.sp :: pg wEq :: .sp :: ((kd (pKs [x,y]) 0).2++.sp :: pwd wIn :: .sp :: (kd (pKs [x,y]) 1).2)))=_
 rw [kaD,ktY]
 show [108,101,116]++([32]++(tNs ns++([32]++([61]++([32]++txt ((kd (pKs [x,y]) 0).2++.sp :: pwd wIn :: .sp :: (kd (pKs [x,y]) 1).2))))))=_
 rw [kaD,kd0,kd1]
 show [108,101,116]++([32]++(tNs ns++([32]++([61]++([32]++(txt (pE x)++([32]++([105,110]++([32]++txt (pE y))))))))))=_
 simp
theorem kzQ (x y z:E):tE (.mk 9 0 [] [] [] [x,y,z] a b)=[105,102,32]++tE x++[32,116,104,101,110,32]++tE y++[32,101,108,115,101,32]++tE z:=by
 unfold tE;rw [pE]
 show [105,102]++([32]++txt ((kd (pKs [x,y,z]) 0).2++.sp :: pwd kj7 :: .sp :: ((kd (pKs [x,y,z]) 1).2++.sp :: pwd kiX :: .sp :: (kd (pKs [x,y,z]) 2).2)))=_
 rw [kaD,kd0,kd1,kd2]
 show [105,102]++([32]++(txt (pE x)++([32]++([116,104,101,110]++([32]++txt (pE y++.sp :: pwd kiX :: .sp :: pE z))))))=_
 rw [kaD]
 show [105,102]++([32]++(txt (pE x)++([32]++([116,104,101,110]++([32]++(txt (pE y)++([32]++([101,108,115,101]++([32]++txt (pE z))))))))))=_
 simp
theorem klr (p q:List UInt8) (x y z:E):tE (.mk 10 0 [] [p,q] [] [x,y,z] a b)=[99,97,115,101,32]++tE x++[32,111,102,32,91,93,32,61,62,32]++tE y++[32,124,32]++p++[32,58,58,32]++q++[32,61,62,32]++tE z:=by
 unfold tE;rw [pE]
 show [99,97,115,101]++([32]++txt ((kd (pKs [x,y,z]) 0).2++.sp :: pwd wOf :: .sp :: pg wLb :: pg wRb :: .sp :: pg wAr :: .sp :: ((kd (pKs [x,y,z]) 1).2 ++
  .sp :: pg wBar :: .sp :: pn p :: .sp :: pg wCc :: .sp :: pn q :: .sp :: pg wAr :: .sp :: (kd (pKs [x,y,z]) 2).2)))=_
 rw [kaD,kd0,kd1,kd2]
 show [99,97,115,101]++([32]++(txt (pE x)++([32]++([111,102]++([32]++([91]++([93]++([32]++([61,62]++([32]++txt (pE y ++
  .sp :: pg wBar :: .sp :: pn p :: .sp :: pg wCc :: .sp :: pn q :: .sp :: pg wAr :: .sp :: pE z)))))))))))=_
 rw [kaD]
 show [99,97,115,101]++([32]++(txt (pE x)++([32]++([111,102]++([32]++([91]++([93]++([32]++([61,62]++([32]++(txt (pE y) ++
  ([32]++([124]++([32]++(p++([32]++([58,58]++([32]++(q++([32]++([61,62]++([32]++txt (pE z)))))))))))))))))))))))=_
 simp
theorem kp7 (x y:E):tE (.mk 11 0 [] [] [] [x,y] a b)=[111,98,115,101,114,118,101,32]++tE x++[32,105,110,32]++tE y:=by
 unfold tE;rw [pE]
 show [111,98,115,101,114,118,101]++([32]++txt ((kd (pKs [x,y]) 0).2++.sp :: pwd wIn :: .sp :: (kd (pKs [x,y]) 1).2))=_
 rw [kaD,kd0,kd1]
 show [111,98,115,101,114,118,101]++([32]++(txt (pE x)++([32]++([105,110]++([32]++txt (pE y))))))=_
 simp
theorem ki6 (p q:Int) (x:E):tE (.mk 12 0 [] [] [p,q] [x] a b)=[115,99,111,114,101,32]++Go.Lib.itoa p++[47]++Go.Lib.itoa q++[32,105,110,32]++tE x:=by
 unfold tE;rw [pE]
 show [115,99,111,114,101]++([32]++txt (pnum p++pg wSl :: (pnum q++.sp :: pwd wIn :: .sp :: (kd (pKs [x]) 0).2)))=_
 rw [kaD,kd0,kdL]
 show [115,99,111,114,101]++([32]++(Go.Lib.itoa p++([47]++txt (pnum q++.sp :: pwd wIn :: .sp :: pE x))))=_
 rw [kaD,kdL]
 show [115,99,111,114,101]++([32]++(Go.Lib.itoa p++([47]++(Go.Lib.itoa q++([32]++([105,110]++([32]++txt (pE x))))))))=_
 simp
def tPk:List Int->List E->List (List UInt8)
 | o :: os,x :: r=>(Go.Lib.itoa o++[58,32]++tE x) :: tPk os r
 | _,_=>[]
theorem kkg:∀ (os:List Int) (ks:List E),(picks os (pKs ks)).map txt=tPk os ks
 | [],ks=>by rw [picks];rfl;intro _ _ _ _ h;cases h
 | o :: os,[]=>by rw [pKs,picks];rfl;intro _ _ _ _ _ h;cases h
 | o :: os,x :: r=>by
  rw [pKs,picks,List.map_cons,kkg os r,tPk,kaD,kdL]
  show (Go.Lib.itoa o++([58]++([32]++txt (pE x)))) :: _=_
  simp [tE]
theorem kls (os:List Int) (ks:List E):tE (.mk 13 0 [] [] os ks a b)=[112,105,99,107,32,123,32]++cms (tPk os ks)++[32,125]:=by
 unfold tE;rw [pE]
 show [112,105,99,107]++([32]++([123]++([32]++txt (commas (picks os (pKs ks))++[.sp,pg wRc]))))=_
 rw [kaD,kbG,kkg]
 simp [txt,Pc.txt,wRc]
theorem klt (p q:Int):tE (.mk 14 0 [] [] [p,q] [] a b)=[102,108,105,112,40]++Go.Lib.itoa p++[47]++Go.Lib.itoa q++[41]:=by
 unfold tE;rw [pE]
 show [102,108,105,112]++([40]++txt (pnum p++pg wSl :: (pnum q++[pg wRp])))=_
 rw [kaD,kdL]
 show [102,108,105,112]++([40]++(Go.Lib.itoa p++([47]++txt (pnum q++[pg wRp]))))=_
 rw [kaD,kdL]
 simp [txt,Pc.txt,wRp]
theorem ki7 (p q:Int):tE (.mk 15 0 [] [] [p,q] [] a b)=[114,97,110,103,101,40]++Go.Lib.itoa p++[44,32]++Go.Lib.itoa q++[41]:=by
 unfold tE;rw [pE]
 show [114,97,110,103,101]++([40]++txt (pnum p++pg wCm :: .sp :: (pnum q++[pg wRp])))=_
 rw [kaD,kdL]
 show [114,97,110,103,101]++([40]++(Go.Lib.itoa p++([44]++([32]++txt (pnum q++[pg wRp])))))=_
 rw [kaD,kdL]
 simp [txt,Pc.txt,wRp]
end
theorem kp8 {s:List UInt8} (h:kaA s=true):s ≠ []:=by
 rintro rfl
 unfold kaA at h
 revert h
 decide
theorem kc6 {s:List UInt8} (h:kaA s=true):s.length<=24:=by
 unfold kaA at h
 simp only [Bool.and_eq_true,decide_eq_true_eq] at h
 exact h.1.2
theorem klu:∀ (k u:Nat),u < 10 ^ (k+1)->(Go.Lib.decDigits u).length<=k+1
 | 0,u,h=>by rw [Go.Lib.decDigits_one (by omega)];simp
 | k+1,u,h=>by
  by_cases h10:u < 10
  · rw [Go.Lib.decDigits_one h10];simp
  · rw [kfa h10,List.length_append]
    have:=klu k (u / 10) (by rw [Nat.pow_succ] at h;omega)
    simp only [List.length_cons,List.length_nil]
    omega
theorem kdO {n:Int} (h0:-2147483647<=n) (h1:n<=2147483647):(Go.Lib.itoa n).length<=12:=by
 by_cases h:n < 0
 · rw [kgH h,List.length_cons]
   have:=klu 9 n.natAbs (by omega)
   omega
 · rw [kfb (by omega)]
   have:=klu 9 n.toNat (by omega)
   omega
theorem kzR (n:Int):Go.Lib.itoa n ≠ []:=by
 by_cases h:n < 0
 · rw [kgH h];exact fun h=>by cases h
 · rw [kfb (by omega)];exact kxI _
theorem khe {lo o:Int} (h:inO lo o=true):lo<=o∧o<=2147483647:=by
 unfold inO at h
 simpa using h
theorem klv (l:List (List UInt8)) (ks:List E) (h:l=ks.map tE) (H:∀ x∈ks,(tE x).length+4<=100*wE x):(cms l).length<=100*wEs ks:=by
 subst h
 have hr:∀ ks:List E,(∀ x∈ks,(tE x).length+4<=100*wE x)->(cmr (ks.map tE)).length<=100*wEs ks:=fun ks=>by
  induction ks with
  | nil=>intro _;exact Nat.zero_le _
  | cons x r ih =>
   intro H
   have:=H x (by simp)
   have:=ih fun y hy=>H y (by simp [hy])
   simp only [List.map_cons,cmr,List.length_append,List.length_cons,List.length_nil,kaN]
   omega
 cases ks with
 | nil=>exact Nat.zero_le _
 | cons x r =>
  have:=H x (by simp)
  have:=hr r fun y hy=>H y (by simp [hy])
  simp only [List.map_cons,cms,List.length_append,kaN]
  omega
theorem kxO:∀ (os:List Int) (ks:List E),(∀ x∈os,inO 0 x=true)->(∀ x∈ks,(tE x).length+4<=100*wE x)->(cmr (tPk os ks)).length<=100*wEs ks+100*os.length
 | [],ks,_,_=>by cases ks<;>exact Nat.zero_le _
 | o :: os,[],_,_=>Nat.zero_le _
 | o :: os,x :: r,ho,H=>by
  have:=H x (by simp)
  have:=kxO os r (fun z hz=>ho z (by simp [hz])) fun y hy=>H y (by simp [hy])
  have hi:=khe (ho o (by simp))
  have:=kdO (n:=o) (by omega) hi.2
  rw [tPk,cmr]
  simp only [List.length_append,List.length_cons,List.length_nil,kaN]
  omega
theorem kp9 (l:List (List UInt8)):(cms l).length<=(cmr l).length:=by
 cases l with
 | nil=>exact Nat.le_refl _
 | cons x r=>simp only [cms,cmr,List.length_append];omega
theorem kqa (m:Nat) (e:E):(tAt m e).length<=(tE e).length+2:=by
 unfold tAt
 split
 · simp only [List.length_append,List.length_cons,List.length_nil];omega
 · omega
theorem kzS {s:List UInt8} (h:0 < lvl s):s.length<=3:=by
 unfold lvl at h
 repeat' split at h
 all_goals first | (exact absurd h (by decide)) | skip
 all_goals (rename_i hs;first | (subst hs;decide) | (rcases hs with rfl | rfl | rfl<;>decide) | (rcases hs with rfl | rfl<;>decide))
theorem kCS (ns:List (List UInt8)) (h:∀ x∈ns,kaA x=true):(tNs ns).length<=26*ns.length+2:=by
 have hr:∀ (l:List (List UInt8)),(∀ x∈l,kaA x=true)->(cmr l).length<=26*l.length:=fun l=>by
  induction l with
  | nil=>intro _;exact Nat.le_refl _
  | cons q r ih =>
   intro hq
   have:=kc6 (hq q (by simp))
   have:=ih fun w hw=>hq w (by simp [hw])
   simp only [cmr,List.length_append,List.length_cons,List.length_nil]
   omega
 match ns,h with
 | [],_=>decide
 | [x],h =>
  have:=kc6 (h x (by simp))
  simp only [tNs,List.length_cons,List.length_nil]
  omega
 | x :: y :: r,h =>
  have:=hr _ h
  have:=kp9 (x :: y :: r)
  simp only [tNs,List.length_append,List.length_cons,List.length_nil] at *
  omega
theorem km3:∀ (d:Nat) (e:E),kaH d e=true->(tE e).length+4<=100*wE e∧tE e ≠ []
 | 0,.mk ..,h=>by rw [kaH] at h;cases h
 | d+1,.mk k n s ns os ks a b,h=>by
  rw [kaH,Bool.and_eq_true] at h
  have hr:=kcs h.2
  have hs:=kmX h.1
  have H:∀ x∈ks,(tE x).length+4<=100*wE x:=fun x hx=>(km3 d x (hr x hx)).1
  generalize hnk:ks.length=nk at hs
  have kcb:ks.length=0->ks=[]:=List.eq_nil_of_length_eq_zero
  have khr:ks.length=1->∃ x,ks=[x]:=fun h=>List.length_eq_one_iff.1 h
  have kdK:ks.length=2->∃ x y,ks=[x,y]:=fun h=>by
   match ks,h with
   | [x,y],_=>exact ⟨x,y,rfl⟩
  have kdk:ks.length=3->∃ x y z,ks=[x,y,z]:=fun h=>by
   match ks,h with
   | [x,y,z],_=>exact ⟨x,y,z,rfl⟩
  cases hs with
  | num _ h1 h2 =>
   obtain rfl:=kcb hnk
   rw [kp4,kc5]
   have:=kdO (n:=n) (by omega) h2
   exact ⟨by simp only [List.length_nil,kbx];omega,kzR n⟩
  | bool _ h1 =>
   obtain rfl:=kcb hnk
   rw [klo,kc5,kbx]
   split<;>exact ⟨by decide,by decide⟩
  | var _ h1 =>
   obtain rfl:=kcb hnk
   rw [kp5,kc5]
   have:=kc6 h1
   exact ⟨by simp only [List.length_nil,kbx];omega,kp8 h1⟩
  | call _ _ h1 =>
   rw [klp,kc5]
   have:=kc6 h1
   have:=klv _ ks rfl H
   exact ⟨by simp only [List.length_append,List.length_nil,List.length_cons];omega,by simp⟩
  | tup _ h1 h2 =>
   rw [kp6,kc5]
   have:=klv _ ks rfl H
   exact ⟨by simp only [List.length_append,List.length_nil,List.length_cons];omega,by simp⟩
  | list _ =>
   rw [klq,kc5]
   have:=klv _ ks rfl H
   exact ⟨by simp only [List.length_append,List.length_nil,List.length_cons];omega,by simp⟩
  | un _ h1 =>
   obtain ⟨x,rfl⟩:=khr hnk
   have:=H x (by simp)
   have:=kqa 7 x
   rw [kc5,kaN,kbx]
   rcases h1 with rfl | rfl
   · rw [kxL]
     exact ⟨by simp only [List.length_append,List.length_nil,List.length_cons];omega,by simp⟩
   · rw [kxM]
     exact ⟨by simp only [List.length_append,List.length_nil,List.length_cons];omega,by simp⟩
  | bin _ h1 h2 =>
   obtain ⟨x,y,rfl⟩:=kdK hnk
   have:=H x (by simp)
   have:=H y (by simp)
   have:=kqa (lft s) x
   have:=kqa (rgt s) y
   have:=kzS h1
   rw [kxN a b s x y h2,kc5,kaN,kaN,kbx]
   exact ⟨by simp only [List.length_append,List.length_nil,List.length_cons];omega,by simp⟩
  | let_ _ h1 h2 h3 =>
   obtain ⟨x,y,rfl⟩:=kdK hnk
   have:=H x (by simp)
   have:=H y (by simp)
   have:=kCS ns h3
   rw [kkf,kc5,kaN,kaN,kbx]
   exact ⟨by simp only [List.length_append,List.length_nil,List.length_cons];omega,by simp⟩
  | if_ =>
   obtain ⟨x,y,z,rfl⟩:=kdk hnk
   have:=H x (by simp)
   have:=H y (by simp)
   have:=H z (by simp)
   rw [kzQ,kc5,kaN,kaN,kaN,kbx]
   exact ⟨by simp only [List.length_append,List.length_nil,List.length_cons];omega,by simp⟩
  | case_ p q h1 h2 =>
   obtain ⟨x,y,z,rfl⟩:=kdk hnk
   have:=H x (by simp)
   have:=H y (by simp)
   have:=H z (by simp)
   have:=kc6 h1
   have:=kc6 h2
   rw [klr,kc5,kaN,kaN,kaN,kbx]
   exact ⟨by simp only [List.length_append,List.length_nil,List.length_cons];omega,by simp⟩
  | obs =>
   obtain ⟨x,y,rfl⟩:=kdK hnk
   have:=H x (by simp)
   have:=H y (by simp)
   rw [kp7,kc5,kaN,kaN,kbx]
   exact ⟨by simp only [List.length_append,List.length_nil,List.length_cons];omega,by simp⟩
  | score p q hp hq =>
   obtain ⟨x,rfl⟩:=khr hnk
   have:=H x (by simp)
   have hp:=khe hp;have hq:=khe hq
   have:=kdO (n:=p) (by omega) hp.2
   have:=kdO (n:=q) (by omega) hq.2
   rw [ki6,kc5,kaN,kbx]
   exact ⟨by simp only [List.length_append,List.length_nil,List.length_cons];omega,by simp⟩
  | pick _ h1 h2 =>
   have:=kxO os ks h2 H
   have:=kp9 (tPk os ks)
   rw [kls,kc5]
   exact ⟨by simp only [List.length_append,List.length_nil,List.length_cons];omega,by simp⟩
  | flip p q hp hq =>
   obtain rfl:=kcb hnk
   have hp:=khe hp;have hq:=khe hq
   have:=kdO (n:=p) (by omega) hp.2
   have:=kdO (n:=q) (by omega) hq.2
   rw [klt,kc5,kbx]
   exact ⟨by simp only [List.length_append,List.length_nil,List.length_cons];omega,by simp⟩
  | range p q hp hq =>
   obtain rfl:=kcb hnk
   have hp:=khe hp;have hq:=khe hq
   have:=kdO (n:=p) (by omega) hp.2
   have:=kdO (n:=q) (by omega) hq.2
   rw [ki7,kc5,kbx]
   exact ⟨by simp only [List.length_append,List.length_nil,List.length_cons];omega,by simp⟩
def tT (t:T):List UInt8:=txt (pT t)
theorem ktZ (k:Int) (l:List T):tT (.mk k l)=if k=1 then kpV else if k=2 then wInt else if k=3 then [40]++cms (l.map tT)++[41] else [91]++cms (l.map tT)++[93]:=by
 unfold tT
 rw [pT]
 by_cases k1:k=1
 · rw [if_pos k1,if_pos k1];exact List.append_nil _
 rw [if_neg k1,if_neg k1]
 by_cases k2:k=2
 · rw [if_pos k2,if_pos k2];exact List.append_nil _
 rw [if_neg k2,if_neg k2]
 have h:(pTs l).map txt=l.map fun t=>txt (pT t):=by rw [ki2,List.map_map];rfl
 by_cases k3:k=3
 · rw [if_pos k3,if_pos k3]
   show [40]++txt (commas (pTs l)++[pg wRp])=_
   rw [kaD,kbG,h]
   simp [txt,Pc.txt,wRp]
 · rw [if_neg k3,if_neg k3]
   show [91]++txt (commas (pTs l)++[pg wRb])=_
   rw [kaD,kbG,h]
   simp [txt,Pc.txt,wRb]
def tF (f:Fld):List UInt8:=f.name++[58,32]++tT f.typ
theorem kCT (f:Fld):txt (pF f)=tF f:=by
 show f.name++([58]++([32]++txt (pT f.typ)))=_
 simp [tF,tT]
def tI (f:Fld):List UInt8:=[105,110,112,117,116,32]++tF f++[59,10]
def tFn (g:Fnc):List UInt8:=[102,117,110,32]++g.name++[40]++cms (g.params.map tF)++[41,58,32]++tT g.res++[32,61,32]++tE g.body++[59,10]
def tIs:List Fld->List UInt8
 | []=>[]
 | f :: r=>tI f++tIs r
def tFns:List Fnc->List UInt8
 | []=>[]
 | f :: r=>tFn f++tFns r
theorem kxP:∀ l:List Fld,txt (pIn l)=tIs l
 | []=>rfl
 | f :: r=>by
  rw [pIn,tIs]
  show [105,110,112,117,116]++([32]++txt (pF f++pg wSc :: .nl :: pIn r))=_
  rw [kaD,kCT]
  show [105,110,112,117,116]++([32]++(tF f++([59]++([10]++txt (pIn r)))))=_
  rw [kxP r]
  simp [tI]
theorem kCU (g:Fnc):txt (pFn g)=tFn g:=by
 unfold pFn
 show [102,117,110]++([32]++(g.name++([40]++txt (commas (g.params.map pF)++pg wRp :: pg wCl :: .sp :: (pT g.res++.sp :: pg wEq :: .sp :: (pE g.body++[pg wSc,.nl]))))))=_
 rw [kaD,kbG,List.map_map,show (txt ∘ pF)=tF from funext kCT]
 show [102,117,110]++([32]++(g.name++([40]++(cms (g.params.map tF)++([41]++([58]++([32]++txt (pT g.res++.sp :: pg wEq :: .sp :: (pE g.body++[pg wSc,.nl])))))))))=_
 rw [kaD]
 show [102,117,110]++([32]++(g.name++([40]++(cms (g.params.map tF)++([41]++([58]++([32]++(txt (pT g.res)++([32]++([61]++([32]++txt (pE g.body++[pg wSc,.nl]))))))))))))=_
 rw [kaD]
 simp [tFn,tT,tE,txt,Pc.txt,wSc]
theorem kqb:∀ l:List Fnc,txt (pFns l)=tFns l
 | []=>rfl
 | g :: r=>by rw [pFns,kaD,kCU,kqb r,tFns]
def tP (p:Pg):List UInt8:=tIs p.inputs++tFns p.funs++tE p.query++[10]
theorem tP_eq (p:Pg):txt (pP p)=tP p:=by
 unfold pP tP
 rw [kaD,kxP,kaD,kqb,kaD]
 simp [tE,txt,Pc.txt]
theorem kxQ {α:Type} (f:α->List UInt8) (w:α->Nat) (c:Nat):∀ (l:List α),(∀ x∈l,(f x).length+2<=c*w x)->(cmr (l.map f)).length<=(l.map fun x=>c*w x).sum
 | [],_=>Nat.zero_le _
 | x :: r,H=>by
  have:=H x (by simp)
  have:=kxQ f w c r fun y hy=>H y (by simp [hy])
  simp only [List.map_cons,cmr,List.length_append,List.length_cons,List.length_nil,List.sum_cons]
  omega
theorem kqc (c:Nat):∀ l:List T,(l.map fun x=>c*wT x).sum=c*wTs l
 | []=>by rw [kg8];rfl
 | x :: r=>by rw [List.map_cons,List.sum_cons,kqc c r,ke8,Nat.mul_add]
theorem ki8:∀ (d:Nat) (t:T),ka8 d t=true->(tT t).length+4<=10*wT t
 | 0,.mk ..,h=>by rw [ka8] at h;cases h
 | d+1,.mk k l,h=>by
  rw [ka8,Bool.and_eq_true] at h
  have H:∀ x∈l,(tT x).length+2<=10*wT x:=fun x hx=>by have:=ki8 d x (kct h.2 x hx);omega
  have h1:=kxQ tT wT 10 l H
  have h2:=kp9 (l.map tT)
  rw [kqc] at h1
  rw [ktZ,kzB]
  split
  · show 4+4<=_;omega
  split
  · show 3+4<=_;omega
  split<;>(simp only [List.length_append,List.length_cons,List.length_nil];omega)
structure Mild (p:Pg):Prop where
 il:p.inputs.length<=100
 fl:p.funs.length<=100
 inp:∀ f∈p.inputs,wT f.typ<=100000
 par:∀ g∈p.funs,g.params.length<=100
 typ:∀ g∈p.funs,∀ f∈g.params,wT f.typ<=100000
 res:∀ g∈p.funs,wT g.res<=100000
 body:∀ g∈p.funs,wE g.body<=100000
 query:wE p.query<=100000
theorem kdh:∀ (d:Nat) (a b:E),sE a=sE b->kaH d a=kaH d b
 | 0,.mk ..,.mk ..,_=>by rw [kaH,kaH]
 | d+1,.mk k n s ns os ks x y,.mk k' n' s' ns' os' ks' x' y',h=>by
  rw [ktR,ktR] at h
  injection h with h1 h2 h3 h4 h5 h6
  subst h1 h2 h3 h4 h5
  have hs:∀ (l l':List E),sEs l=sEs l'->kcr d l=kcr d l'∧l.length=l'.length:=fun l=>by
   induction l with
   | nil =>
    intro l' he
    cases l' with
    | nil=>exact ⟨rfl,rfl⟩
    | cons y r=>rw [ki1,kcL] at he;cases he
   | cons x r ih =>
    intro l' he
    cases l' with
    | nil=>rw [ki1,kcL] at he;cases he
    | cons y q =>
     rw [kcL,kcL] at he
     injection he with e1 e2
     obtain ⟨i1,i2⟩:=ih q e2
     rw [kcr,kcr,kdh d x y e1,i1,List.length_cons,List.length_cons,i2]
     exact ⟨rfl,rfl⟩
  obtain ⟨i1,i2⟩:=hs ks ks' h6
  rw [kaH,kaH,i1,i2]
theorem khf {a b:Fld} (h:sF a=sF b):kbu a=kbu b:=by
 unfold sF at h
 injection h with h1 h2
 unfold kbu
 rw [h1,h2]
theorem kgI {α:Type} {f:α->Bool} {s:α->α} (H:∀ a b,s a=s b->f a=f b):∀ a b:List α,a.map s=b.map s->a.all f=b.all f
 | [],[],_=>rfl
 | x :: a,y :: b,h=>by
  rw [List.map_cons,List.map_cons] at h
  injection h with h1 h2
  rw [List.all_cons,List.all_cons,H x y h1,kgI H a b h2]
 | [],_ :: _,h=>by cases h
 | _ :: _,[],h=>by cases h
theorem kkh {a b:Fnc} (h:sFn a=sFn b):kby a=kby b:=by
 unfold sFn at h
 injection h with h1 h2 h3 h4
 unfold kby
 rw [h1,h3,kgI (fun a b h=>khf h) _ _ h2,kdh 40 _ _ h4]
theorem klw {a b:Pg} (h:sP a=sP b):kbT a=kbT b:=by
 unfold sP at h
 injection h with h1 h2 h3
 unfold kbT
 rw [kgI (fun a b h=>khf h) _ _ h1,kgI (fun a b h=>kkh h) _ _ h2,kdh 40 _ _ h3]
end Go.Proofs.YtaphnbaiamnfpaaGreatDoor.Px
namespace Go.Proofs.YtaphnbaiamnfpaaGreatDoor.Px
set_option linter.unusedVariables false
set_option linter.unusedSimpArgs false
open Lx (Tok bare)
open Pm
def isB (w:List UInt8) (b:Bt):Bool:=(b.1==4 || b.1==2)&&b.2.1==w
theorem klx (w:List UInt8) (t:Tok):isT w t=isB w (bare t):=rfl
def Occ (l:List Tok):Nat->List Bt->Prop
 | i,[]=>i < l.length
 | i,b :: r=>i < l.length∧bare (tk l i)=b∧Occ l (i+1) r
section
variable {l:List Tok}
theorem Occ.lt:∀ {bs:List Bt} {i:Nat},Occ l i bs->i < l.length
 | [],_,h=>h
 | _ :: _,_,h=>h.1
theorem Occ.app:∀ {a b:List Bt} {i:Nat},Occ l i (a++b)->Occ l i a∧Occ l (i+a.length) b
 | [],b,i,h=>⟨Occ.lt h,h⟩
 | x :: a,b,i,h=>by
  obtain ⟨h1,h2,h3⟩:=h
  obtain ⟨h4,h5⟩:=Occ.app h3
  refine ⟨⟨h1,h2,h4⟩,?_⟩
  rw [List.length_cons,show i+(a.length+1)=i+1+a.length by omega]
  exact h5
variable {P:(q:NT)->Nat->Rs (Ret q)} {α:Type}
theorem ka3 {i:Nat} {b:Bt} {w:List UInt8} {y n:Pm α} (h:bare (tk l i)=b) (hb:isB w b=true):run P l (take w y n) i=run P l y (i+1):=by
 rw [run,klx,h,hb];rfl
theorem kav {i:Nat} {b:Bt} {w:List UInt8} {y n:Pm α} (h:bare (tk l i)=b) (hb:isB w b=false):run P l (.tst w y n) i=run P l n i:=by
 rw [run,klx,h,hb];rfl
theorem r_no {i:Nat} {w:List UInt8} {y n:Pm α} (h:isT w (tk l i)=false):run P l (.tst w y n) i=run P l n i:=by
 rw [run,h];rfl
theorem kaM {i:Nat} {b:Bt} {w:List UInt8} {m:Pm α} (h:bare (tk l i)=b) (hb:isB w b=true):run P l (want w m) i=run P l m (i+1):=by
 rw [run,klx,h,hb];rfl
theorem kcu {i:Nat} {k:Int} {f:Tok->Pm α} (h:(tk l i).kind=k):run P l (kind k f) i=run P l (f (tk l i)) (i+1):=by
 rw [run,h,beq_self_eq_true];rfl
theorem ket {i:Nat} {k:Int} {y n:Pm α} (h:(tk l i).kind ≠ k):run P l (.knd k y n) i=run P l n i:=by
 rw [run,beq_false_of_ne h];rfl
theorem kqd {i:Nat} {k:Int} {y n:Pm α} (h:(tk l i).kind=k):run P l (.knd k y n) i=run P l y i:=by
 rw [run,h,beq_self_eq_true];rfl
theorem km4 {i:Nat} {m:Pm α}:run P l (.next m) i=run P l m (i+1):=by rw [run]
theorem kbJ {i:Nat} {f:Tok->Pm α}:run P l (.look f) i=run P l (f (tk l i)) i:=by rw [run]
theorem kaw {i:Nat} {q:NT} {f:Ret q->Pm α} {a:Ret q} {j:Nat} (h:P q i=.ok a j):run P l (.call q f) i=run P l (f a) j:=by
 rw [run,h]
theorem ka9 {i:Nat} {a:α}:run P l (.ret a) i=.ok a i:=by rw [run]
theorem kki {i:Nat} {q:NT}:run P l (.call q .ret) i=P q i:=by
 rw [run]
 cases P q i with
 | ok a j=>rfl
 | no j=>rfl
 | out=>rfl
theorem r_at {r:Rs α} {a:α} {j j':Nat} (h:r=.ok a j) (e:j=j'):r=.ok a j':=e▸h
theorem kaX {t:Tok} {k n:Int} {s:List UInt8} (h:bare t=(k,s,n)):t.kind=k:=congrArg (·.1) h
theorem kdP {t:Tok} {k n:Int} {s:List UInt8} (h:bare t=(k,s,n)):t.text=s:=congrArg (·.2.1) h
theorem b_n {t:Tok} {k n:Int} {s:List UInt8} (h:bare t=(k,s,n)):t.n=n:=congrArg (·.2.2) h
theorem kkj {w s:List UInt8} {k n:Int} (h4:k ≠ 4) (h2:k ≠ 2):isB w (k,s,n)=false:=by
 unfold isB
 rw [show ((k,s,n):Bt).1=k from rfl,beq_false_of_ne h4,beq_false_of_ne h2];rfl
structure Stp (m:Nat) (t:Tok):Prop where
 op:∀ n,m<=n->∀ s∈kbk n,isT s t=false
 lp:isT wLp t=false
theorem Stp.le {m m':Nat} {t:Tok} (h:Stp m t) (hm:m<=m'):Stp m' t:=⟨fun n hn=>h.op n (Nat.le_trans hm hn),h.lp⟩
theorem kCV {m:Nat} {t:Tok} {b:Bt} (h:bare t=b) (h1:∀ n,m<=n->n < 6->∀ s∈kbk n,isB s b=false) (h2:isB wLp b=false):Stp m t :=
 ⟨fun n hn s hs=>(klx s t).trans (h.symm▸(by
  by_cases h6:n < 6
  · exact h1 n hn h6 s hs
  · obtain ⟨k,rfl⟩:∃ k,n=k+6:=⟨n - 6,by omega⟩
    cases hs)),(klx wLp t).trans (h.symm▸h2)⟩
def closers:List Bt:=[(4,wRp,0),(4,wRb,0),(4,wRc,0),(4,wCm,0),(2,wIn,0),(2,kj7,0),(2,kiX,0),(2,wOf,0),(4,wBar,0),(4,wSc,0),(5,[],0)]
theorem kaO {t:Tok} {b:Bt} (h:bare t=b) (hb:b∈closers):Stp 0 t:=by
 refine kCV h (fun n _ hn=>?_) ?_
 · have:∀ b∈closers,∀ n,n < 6->∀ s∈kbk n,isB s b=false:=by decide
   exact this b hb n hn
 · have:∀ b∈closers,isB wLp b=false:=by decide
   exact this b hb
theorem kxR {i:Nat} {y n:Pm α}:∀ ss:List (List UInt8),(∀ s∈ss,isT s (tk l i)=false)->run P l (any ss y n) i=run P l n i
 | [],_=>rfl
 | s :: ss,h=>(r_no (h s (by simp))).trans (kxR ss fun x hx=>h x (by simp [hx]))
theorem kqe {i:Nat} {y n:Pm α}:∀ ss:List (List UInt8),(∃ s∈ss,isT s (tk l i)=true)->run P l (any ss y n) i=run P l y i
 | [],h=>by obtain ⟨s,hs,_⟩:=h;cases hs
 | s :: ss,h=>by
  cases hq:isT s (tk l i) with
  | true =>
   show run P l (.tst s y (any ss y n)) i=_
   rw [run,hq];rfl
  | false =>
   refine (r_no hq).trans (kqe ss ?_)
   obtain ⟨x,hx,h2⟩:=h
   rcases List.mem_cons.1 hx with rfl | hx
   · rw [hq] at h2;cases h2
   · exact ⟨x,hx,h2⟩
theorem kkk (hl:GoodL l) {n j:Nat} (hj:j < l.length) (h:∀ s∈kbk n,isT s (tk l j)=false) (x:E):pw l (.loop n x) j=.ok x j:=by
 rw [kaC hl _ j hj]
 exact (kxR _ h).trans ka9
theorem ki9 (hl:GoodL l) {n i j:Nat} (hn:n < 6) (hi:i < l.length) {x:E} (h:pw l (.level (n+1)) i=.ok x j):pw l (.level n) i=pw l (.loop n x) j:=by
 rw [kaC hl _ i hi]
 match n,hn with
 | 0,_ | 1,_ | 2,_ | 3,_ | 4,_ | 5,_=>exact (kaw h).trans kki
theorem khg (hl:GoodL l) {i:Nat} (hi:i < l.length):pw l (.level 6) i=pw l .unary i:=by
 rw [kaC hl _ i hi]
 exact kki
theorem kfS (hl:GoodL l) {i j:Nat} (hi:i < l.length) (hj:j < l.length) {x:E}:∀ (d n:Nat),n+d<=6->pw l (.level (n+d)) i=.ok x j->Stp n (tk l j)->pw l (.level n) i=.ok x j
 | 0,n,_,h,_=>h
 | d+1,n,hd,h,hs=>by
  have h1:=kfS hl hi hj d (n+1) (by omega) (by rw [show n+1+d=n+(d+1) by omega];exact h) (hs.le (Nat.le_succ n))
  rw [ki9 hl (by omega) hi h1]
  exact kkk hl hj (hs.op n (Nat.le_refl n)) x
structure Sta (r:Nat) (b:Bt):Prop where
 rp:isB wRp b=false
 rb:isB wRb b=false
 ex:1<=r->∀ w∈[wLet,wIf,kgB,kbK,kdw],isB w b=false
 un:8<=r->isB wNot b=false∧isB wMi b=false
theorem Sta.le {r r':Nat} {b:Bt} (h:Sta r b) (hr:r'<=r):Sta r' b:=⟨h.rp,h.rb,fun h1=>h.ex (Nat.le_trans h1 hr),fun h1=>h.un (Nat.le_trans h1 hr)⟩
def pq (l:List Tok) (m i:Nat):Rs E:=if m=0 then pw l .expr i else if m < 7 then pw l (.level (m - 1)) i else if m=7 then pw l .unary i else pw l .atom i
theorem ko9 (hl:GoodL l) {i:Nat} (hi:i < l.length) (h:Sta 1 (bare (tk l i))):pw l .expr i=pw l (.level 0) i:=by
 rw [kaC hl _ i hi]
 have hx:=h.ex (Nat.le_refl _)
 exact kbJ.trans ((kav rfl (hx wLet (by simp))).trans ((kav rfl (hx wIf (by simp))).trans ((kav rfl (hx kgB (by simp))).trans ((kav rfl (hx kbK (by simp))).trans ((kav rfl (hx kdw (by simp))).trans kki)))))
theorem kpa (hl:GoodL l) {i:Nat} (hi:i < l.length) (h:Sta 8 (bare (tk l i))):pw l .unary i=pw l .atom i:=by
 rw [kaC hl _ i hi]
 exact kbJ.trans ((kav rfl (h.un (Nat.le_refl _)).1).trans ((kav rfl (h.un (Nat.le_refl _)).2).trans kki))
theorem climb (hl:GoodL l) {i j:Nat} (hi:i < l.length) (hj:j < l.length) {x:E} {r m:Nat} (hm:m<=r) (hr:r<=8) (hs:Sta r (bare (tk l i))) (hst:Stp (m - 1) (tk l j)) (h:pq l r i=.ok x j):pq l m i=.ok x j:=by
 by_cases e:m=r
 · rw [e];exact h
 have h7:7<=r->pw l .unary i=.ok x j:=fun h7=>by
  unfold pq at h
  rw [if_neg (by omega),if_neg (by omega)] at h
  by_cases e7:r=7
  · rw [if_pos e7] at h;exact h
  · rw [if_neg e7] at h
    rw [kpa hl hi (hs.le (by omega))]
    exact h
 have hlev:∀ n,n+1 < 7->n+1<=r->Stp n (tk l j)->pw l (.level n) i=.ok x j:=fun n hn hnr hst=>by
  by_cases r7:7<=r
  · refine kfS hl hi hj (6 - n) n (by omega) ?_ hst
    rw [show n+(6 - n)=6 by omega,khg hl hi]
    exact h7 r7
  · unfold pq at h
    rw [if_neg (by omega),if_pos (by omega)] at h
    refine kfS hl hi hj (r - 1 - n) n (by omega) ?_ hst
    rw [show n+(r - 1 - n)=r - 1 by omega]
    exact h
 unfold pq
 by_cases m0:m=0
 · rw [if_pos m0,ko9 hl hi (hs.le (by omega))]
   exact hlev 0 (by omega) (by omega) (by rw [m0] at hst;exact hst)
 · rw [if_neg m0]
   by_cases m7:m < 7
   · rw [if_pos m7]
     exact hlev (m - 1) (by omega) (by omega) hst
   · rw [if_neg m7,if_pos (by omega)]
     exact h7 (by omega)
end
theorem kCW (s:List UInt8):lvl s<=7:=by
 unfold lvl
 repeat' split
 all_goals omega
theorem kCX (k:Int) (s:List UInt8):rk k s<=8:=by
 unfold rk
 have:=kCW s
 repeat' split
 all_goals omega
theorem kqf (r:Nat):Sta r (4,wLp,0):=⟨by decide,by decide,fun _=>by decide,fun _=>by decide⟩
structure Pz (e:E):Prop where
 hd:∃ b r,tks (pE e)=b :: r∧Sta e.rk b
 own:∀ (l:List Tok),GoodL l->∀ i,Occ l i (tks (pE e))->Stp (e.rk - 1) (tk l (i+(tks (pE e)).length))->∃ x,sE x=sE e∧pq l e.rk i=.ok x (i+(tks (pE e)).length)
 spine:∀ n,(n=0∨n=1∨n=4∨n=5)->e.rk=n+1->∀ (l:List Tok),GoodL l->∀ i,Occ l i (tks (pE e))->Stp (n+1) (tk l (i+(tks (pE e)).length)) ->
  ∃ x,sE x=sE e∧pw l (.level n) i=pw l (.loop n x) (i+(tks (pE e)).length)
section
variable {l:List Tok}
theorem kja:∀ {bs:List Bt} {i:Nat},Occ l i bs->i+bs.length < l.length
 | [],_,h=>h
 | b :: r,i,h=>by have:=kja h.2.2;rw [List.length_cons];omega
theorem Pz.at0 {e:E} (h:Pz e) (hl:GoodL l) {i:Nat} (ho:Occ l i (tks (pE e))) (hs:Stp 0 (tk l (i+(tks (pE e)).length))):∃ x,sE x=sE e∧pw l .expr i=.ok x (i+(tks (pE e)).length):=by
 obtain ⟨x,h1,h2⟩:=h.own l hl i ho (hs.le (Nat.zero_le _))
 obtain ⟨b,r,h3,h4⟩:=h.hd
 have h5:bare (tk l i)=b:=by rw [h3] at ho;exact ho.2.1
 have:=climb hl ho.lt (kja ho) (Nat.zero_le _) (kCX _ _) (h5▸h4) hs h2
 exact ⟨x,h1,this⟩
theorem khh (hl:GoodL l) {i:Nat} (h0:i < l.length) (hb:bare (tk l i)=(4,wLp,0)):pw l .atom i=run (pw l) l (.call .expr fun a=>take wRp (.ret a) (want wCm (.call .expr fun b=>.call (.rest wRp) fun r=>.ret (E.mk 5 0 [] [] [] (a :: b :: r) (tk l i).line (tk l i).col)))) (i+1):=by
 rw [kaC hl _ i h0]
 have hk:=kaX hb
 exact kbJ.trans ((ket (by rw [hk];decide)).trans ((ket (by rw [hk];decide)).trans ((kav hb (by decide)).trans ((kav hb (by decide)).trans (ka3 hb (by decide))))))
theorem Pz.at_ {e:E} (h:Pz e) (hl:GoodL l) {m i:Nat} (hm:m<=8) (ho:Occ l i (tks (par m (e.rk,pE e)))) (hs:Stp (m - 1) (tk l (i+(tks (par m (e.rk,pE e))).length))) :
 ∃ x,sE x=sE e∧pq l m i=.ok x (i+(tks (par m (e.rk,pE e))).length):=by
 unfold par at ho hs ⊢
 by_cases hr:e.rk < m
 · rw [if_pos hr] at ho hs ⊢
   simp only [tks,kaW] at ho hs ⊢
   obtain ⟨h0,h1,h2⟩:=ho
   obtain ⟨h3,h4,h5,h6⟩:=h2.app
   obtain ⟨x,h7,h8⟩:=h.at0 hl h3 (kaO h5 (by decide))
   refine ⟨x,h7,?_⟩
   have ha:pw l .atom i=.ok x (i+1+(tks (pE e)).length+1):=(khh hl h0 h1).trans ((kaw h8).trans ((ka3 h5 (by decide)).trans ka9))
   have e1:i+(((4,wLp,0) :: (tks (pE e)++[(4,wRp,0)])):List Bt).length=i+1+(tks (pE e)).length+1:=by
    rw [List.length_cons,List.length_append,List.length_singleton];omega
   rw [e1] at hs ⊢
   exact climb hl h0 h6 hm (Nat.le_refl 8) (h1▸kqf 8) hs ha
 · rw [if_neg hr] at ho hs ⊢
   obtain ⟨x,h1,h2⟩:=h.own l hl i ho (hs.le (by omega))
   obtain ⟨b,r,h3,h4⟩:=h.hd
   have h5:bare (tk l i)=b:=by rw [h3] at ho;exact ho.2.1
   exact ⟨x,h1,climb hl ho.lt (kja ho) (Nat.le_of_not_lt hr) (kCX _ _) (h5▸h4) hs h2⟩
theorem Pz.spine' {e:E} (h:Pz e) (hl:GoodL l) {n i:Nat} (hn:n=0∨n=1∨n=4∨n=5) (ho:Occ l i (tks (par (n+1) (e.rk,pE e)))) (hs:Stp (n+1) (tk l (i+(tks (par (n+1) (e.rk,pE e))).length))) :
 ∃ x,sE x=sE e∧pw l (.level n) i=pw l (.loop n x) (i+(tks (par (n+1) (e.rk,pE e))).length):=by
 by_cases hr:e.rk=n+1
 · unfold par at ho hs ⊢
   rw [if_neg (by show ¬ e.rk < n+1;omega)] at ho hs ⊢
   exact h.spine n hn hr l hl i ho hs
 · have hp:par (n+1) (e.rk,pE e)=par (n+2) (e.rk,pE e):=by
    unfold par
    by_cases h1:e.rk < n+1
    · rw [if_pos h1,if_pos (show e.rk < n+2 by omega)]
    · rw [if_neg h1,if_neg (show ¬ e.rk < n+2 by omega)]
   rw [hp] at ho hs ⊢
   obtain ⟨x,h1,h2⟩:=h.at_ hl (by omega) ho hs
   refine ⟨x,h1,ki9 hl (by omega) ho.lt ?_⟩
   unfold pq at h2
   rw [if_neg (by omega)] at h2
   by_cases h7:n+2 < 7
   · rw [if_pos h7] at h2;exact h2
   · rw [if_neg h7,if_pos (by omega)] at h2
     rw [show n+1=6 by omega,khg hl ho.lt]
     exact h2
end
def tl:List (List Pc)->List Bt
 | []=>[]
 | y :: r=>(4,wCm,0) :: (tks y++tl r)
theorem kcl:∀ (x:List Pc) (r:List (List Pc)),tks (commas (x :: r))=tks x++tl r
 | x,[]=>(List.append_nil _).symm
 | x,y :: r=>by
  show tks (x++pg wCm :: .sp :: commas (y :: r))=_
  rw [kaW]
  show tks x++((4,wCm,0) :: tks (commas (y :: r)))=_
  rw [kcl y r]
  rfl
section
variable {l:List Tok}
theorem kaj {b:Bt} {r:List Bt} {i:Nat} (h:Occ l i (b :: r)):i < l.length∧bare (tk l i)=b∧Occ l (i+1) r:=h
theorem rest_ok (hl:GoodL l) {cl:List UInt8} (hc:cl=wRp∨cl=wRb):∀ (ks:List E),(∀ x∈ks,Pz x)->∀ i,Occ l i (tl (ks.map pE)++[(4,cl,0)]) ->
 ∃ xs,sEs xs=sEs ks∧pw l (.rest cl) i=.ok xs (i+(tl (ks.map pE)).length+1)
 | [],_,i,ho=>by
  obtain ⟨h0,h1,h2⟩:=kaj ho
  refine ⟨[],rfl,?_⟩
  rw [kaC hl _ i h0]
  rcases hc with rfl | rfl
  · exact (kav h1 (by decide)).trans ((kaM h1 (by decide)).trans ka9)
  · exact (kav h1 (by decide)).trans ((kaM h1 (by decide)).trans ka9)
 | x :: r,H,i,ho=>by
  obtain ⟨h0,h1,h2⟩:=kaj (show Occ l i ((4,wCm,0) :: (tks (pE x)++tl (r.map pE)++[(4,cl,0)])) from ho)
  rw [List.append_assoc] at h2
  obtain ⟨h3,h4⟩:=h2.app
  have hst:Stp 0 (tk l (i+1+(tks (pE x)).length)):=by
   cases r with
   | nil =>
    obtain ⟨_,h5,_⟩:=kaj h4
    refine kaO h5 ?_
    rcases hc with rfl | rfl<;>decide
   | cons y q =>
    obtain ⟨_,h5,_⟩:=kaj (show Occ l _ ((4,wCm,0) :: _) from h4)
    exact kaO h5 (by decide)
  obtain ⟨x',h5,h6⟩:=(H x (by simp)).at0 hl h3 hst
  obtain ⟨xs,h7,h8⟩:=rest_ok hl hc r (fun z hz=>H z (List.mem_cons_of_mem _ hz)) _ h4
  refine ⟨x' :: xs,by rw [sEs,sEs,h5,h7],?_⟩
  rw [kaC hl _ i h0]
  refine r_at ((ka3 h1 (by decide)).trans ((kaw h6).trans ((kaw h8).trans ka9))) ?_
  show _=i+((4,wCm,0) :: (tks (pE x)++tl (r.map pE)):List Bt).length+1
  rw [List.length_cons,List.length_append]
  omega
theorem list_ok (hl:GoodL l) {cl:List UInt8} (hc:cl=wRp∨cl=wRb) (ks:List E) (H:∀ x∈ks,Pz x) (i:Nat) (ho:Occ l i (tks (commas (ks.map pE))++[(4,cl,0)])) :
 ∃ xs,sEs xs=sEs ks∧pw l (.list cl) i=.ok xs (i+(tks (commas (ks.map pE))).length+1):=by
 cases ks with
 | nil =>
  obtain ⟨h0,h1,h2⟩:=kaj ho
  refine ⟨[],rfl,?_⟩
  rw [kaC hl _ i h0]
  exact (ka3 h1 (by rcases hc with rfl | rfl<;>decide)).trans ka9
 | cons x r =>
  rw [List.map_cons,kcl] at ho ⊢
  rw [List.append_assoc] at ho
  obtain ⟨h3,h4⟩:=ho.app
  have hst:Stp 0 (tk l (i+(tks (pE x)).length)):=by
   cases r with
   | nil =>
    obtain ⟨_,h5,_⟩:=kaj h4
    refine kaO h5 ?_
    rcases hc with rfl | rfl<;>decide
   | cons y q =>
    obtain ⟨_,h5,_⟩:=kaj (show Occ l _ ((4,wCm,0) :: _) from h4)
    exact kaO h5 (by decide)
  obtain ⟨x',h5,h6⟩:=(H x (by simp)).at0 hl h3 hst
  obtain ⟨xs,h7,h8⟩:=rest_ok hl hc r (fun z hz=>H z (List.mem_cons_of_mem _ hz)) _ h4
  refine ⟨x' :: xs,by rw [sEs,sEs,h5,h7],?_⟩
  obtain ⟨b,q,hb,hsb⟩:=(H x (by simp)).hd
  have h9:bare (tk l i)=b:=by rw [hb] at h3;exact h3.2.1
  rw [kaC hl _ i ho.lt]
  refine r_at ((kav h9 ?_).trans ((kaw h6).trans ((kaw h8).trans ka9))) ?_
  · rcases hc with rfl | rfl
    · exact hsb.rp
    · exact hsb.rb
  · rw [List.length_append];omega
theorem names_ok (hl:GoodL l):∀ (ns:List (List UInt8)) (i:Nat),Occ l i (tl (ns.map fun x=>[pn x])++[(4,wRp,0)])->pw l .names i=.ok ns (i+(tl (ns.map fun x=>[pn x])).length+1)
 | [],i,ho=>by
  obtain ⟨h0,h1,h2⟩:=kaj ho
  rw [kaC hl _ i h0]
  exact (kav h1 (by decide)).trans ((kaM h1 (by decide)).trans ka9)
 | x :: r,i,ho=>by
  obtain ⟨h0,h1,h2,h3,h4⟩:=kaj (show Occ l i ((4,wCm,0) :: (1,x,0) :: (tl (r.map fun x=>[pn x])++[(4,wRp,0)])) from ho)
  have h5:=names_ok hl r _ h4
  rw [kaC hl _ i h0]
  refine r_at ((ka3 h1 (by decide)).trans ((kcu (kaX h3)).trans ((kaw h5).trans (ka9.trans (by rw [kdP h3]))))) ?_
  show _=i+((4,wCm,0) :: (1,x,0) :: tl (r.map fun x=>[pn x]):List Bt).length+1
  rw [List.length_cons,List.length_cons]
  omega
theorem kdi {o:Int} (h:0<=o):pnum o=[pu o]:=by unfold pnum;rw [if_neg (by omega)]
theorem share_ok (hl:GoodL l) {p q:Int} (hp:0<=p) (hq:0<=q) {i:Nat} (ho:Occ l i (tks (pnum p)++(4,wSl,0) :: tks (pnum q))):pw l .share i=.ok [p,q] (i+3):=by
 rw [kdi hp,kdi hq] at ho
 obtain ⟨h0,h1,h2,h3,h4,h5,h6⟩:=kaj (show Occ l i [(3,Go.Lib.itoa p,p),(4,wSl,0),(3,Go.Lib.itoa q,q)] from ho)
 rw [kaC hl _ i h0]
 exact (kcu (kaX h1)).trans ((kaM h3 (by decide)).trans ((kcu (kaX h5)).trans (ka9.trans (by rw [b_n h1,b_n h5]))))
theorem bound_ok (hl:GoodL l) {p:Int} {i:Nat} (ho:Occ l i (tks (pnum p))):pw l .bound i=.ok p (i+(tks (pnum p)).length):=by
 rw [kaC hl _ i ho.lt]
 unfold pnum at ho ⊢
 by_cases h:p < 0
 · rw [if_pos h] at ho ⊢
   obtain ⟨h0,h1,h2,h3,h4⟩:=kaj (show Occ l i [(4,wMi,0),(3,Go.Lib.itoa (-p),-p)] from ho)
   exact (ka3 h1 (by decide)).trans ((kcu (kaX h3)).trans (ka9.trans (by rw [b_n h3,Int.neg_neg];rfl)))
 · rw [if_neg h] at ho ⊢
   obtain ⟨h0,h1,h2⟩:=kaj (show Occ l i [(3,Go.Lib.itoa p,p)] from ho)
   exact (kav h1 (kkj (by decide) (by decide))).trans ((kcu (kaX h1)).trans (ka9.trans (by rw [b_n h1];rfl)))
theorem pick_ok (hl:GoodL l):∀ (os:List Int) (ks:List E),os.length=ks.length->1<=os.length->(∀ o∈os,0<=o)->(∀ x∈ks,Pz x)->∀ i,Occ l i (tks (commas (picks os (pKs ks)))++[(4,wRc,0)]) ->
 ∃ xs,sEs xs=sEs ks∧pw l .pick i=.ok (os,xs) (i+(tks (commas (picks os (pKs ks)))).length+1)
 | [],_,_,h,_,_,_,_=>by cases h
 | o :: os,[],h,_,_,_,_,_=>by cases h
 | [o],[x],_,_,h0,H,i,ho=>by
  have e:tks (commas (picks [o] (pKs [x])))=(3,Go.Lib.itoa o,o) :: (4,wCl,0) :: tks (pE x):=by
   rw [pKs,pKs]
   show tks (pnum o++pg wCl :: .sp :: pE x)=_
   rw [kdi (h0 o (by simp))]
   rfl
  rw [e] at ho ⊢
  obtain ⟨h1,h2,h3,h4,h5⟩:=kaj ho
  obtain ⟨h6,h7⟩:=Occ.app h5
  obtain ⟨h8,h9,h10⟩:=kaj h7
  obtain ⟨x',hx,hp⟩:=(H x (by simp)).at0 hl h6 (kaO h9 (by decide))
  refine ⟨[x'],by rw [sEs,sEs,hx];rfl,?_⟩
  rw [kaC hl _ i h1]
  refine r_at ((kcu (kaX h2)).trans ((kaM h4 (by decide)).trans ((kaw hp).trans ((kav h9 (by decide)).trans ((kaM h9 (by decide)).trans (ka9.trans (by rw [b_n h2]))))))) ?_
  rw [List.length_cons,List.length_cons]
  omega
 | o :: o2 :: os,[x],h,_,_,_,_,_=>by cases h
 | [o],x :: y :: ks,h,_,_,_,_,_=>by cases h
 | o :: o2 :: os,x :: y :: ks,h,_,h0,H,i,ho=>by
  have e:tks (commas (picks (o :: o2 :: os) (pKs (x :: y :: ks))))=(3,Go.Lib.itoa o,o) :: (4,wCl,0) :: (tks (pE x)++(4,wCm,0) :: tks (commas (picks (o2 :: os) (pKs (y :: ks))))):=by
   rw [pKs,pKs]
   show tks ((pnum o++pg wCl :: .sp :: pE x)++pg wCm :: .sp :: commas (picks (o2 :: os) ((y.rk,pE y) :: pKs ks)))=_
   rw [kdi (h0 o (by simp)),kaW]
   rfl
  rw [e] at ho ⊢
  obtain ⟨h1,h2,h3,h4,h5⟩:=kaj ho
  replace h5:Occ l (i+1+1) (tks (pE x)++(4,wCm,0) :: tks (commas (picks (o2 :: os) (pKs (y :: ks))))++[(4,wRc,0)]):=h5
  rw [List.append_assoc] at h5
  obtain ⟨h6,h7⟩:=Occ.app h5
  obtain ⟨h8,h9,h10⟩:=kaj (show Occ l _ ((4,wCm,0) :: (tks (commas (picks (o2 :: os) (pKs (y :: ks))))++[(4,wRc,0)])) from h7)
  obtain ⟨x',hx,hp⟩:=(H x (by simp)).at0 hl h6 (kaO h9 (by decide))
  obtain ⟨xs,hxs,hps⟩:=pick_ok hl (o2 :: os) (y :: ks) (by simpa using h) (by simp) (fun z hz=>h0 z (List.mem_cons_of_mem _ hz)) (fun z hz=>H z (List.mem_cons_of_mem _ hz)) _ h10
  refine ⟨x' :: xs,by rw [sEs,sEs,hx,hxs],?_⟩
  rw [kaC hl _ i h1]
  refine r_at ((kcu (kaX h2)).trans ((kaM h4 (by decide)).trans ((kaw hp).trans ((ka3 h9 (by decide)).trans ((kaw hps).trans (ka9.trans (by rw [b_n h2]))))))) ?_
  rw [List.length_cons,List.length_cons,List.length_append,List.length_cons]
  omega
end
theorem kdF {r:Rs E} {e x:E} {j:Nat} (h:r=.ok x j) (hs:sE x=sE e):∃ x,sE x=sE e∧r=.ok x j:=⟨x,hs,h⟩
theorem pq8 (l:List Tok) (i:Nat):pq l 8 i=pw l .atom i:=rfl
theorem pq0 (l:List Tok) (i:Nat):pq l 0 i=pw l .expr i:=rfl
theorem kcY {e:E} {b:Bt} {r:List Bt} (hk:e.rk=8) (ht:tks (pE e)=b :: r) (hb:Sta 8 b)
 (h:∀ (l:List Tok),GoodL l->∀ i,Occ l i (b :: r)->isT wLp (tk l (i+(b :: r).length))=false->∃ x,sE x=sE e∧pw l .atom i=.ok x (i+(b :: r).length)):Pz e where
 hd:=⟨b,r,ht,by rw [hk];exact hb⟩
 own:=fun l hl i ho hs=>by
  rw [ht] at ho hs ⊢
  rw [hk,pq8]
  exact h l hl i ho hs.lp
 spine:=fun n hn hr=>by omega
theorem kfT {e:E} {b:Bt} {r:List Bt} (hk:e.rk=0) (ht:tks (pE e)=b :: r) (hb:Sta 0 b)
 (h:∀ (l:List Tok),GoodL l->∀ i,Occ l i (b :: r)->Stp 0 (tk l (i+(b :: r).length))->∃ x,sE x=sE e∧pw l .expr i=.ok x (i+(b :: r).length)):Pz e where
 hd:=⟨b,r,ht,by rw [hk];exact hb⟩
 own:=fun l hl i ho hs=>by
  rw [ht] at ho hs ⊢
  rw [hk,pq0]
  rw [hk] at hs
  exact h l hl i ho hs
 spine:=fun n hn hr=>by omega
theorem kzT {r:Nat} {k n:Int} {s:List UInt8} (h4:k ≠ 4) (h2:k ≠ 2):Sta r (k,s,n):=⟨kkj h4 h2,kkj h4 h2,fun _ w _=>kkj h4 h2,fun _=>⟨kkj h4 h2,kkj h4 h2⟩⟩
theorem kqg {α:Type} {l:List α} (h:l.length=1):∃ a,l=[a]:=by
 match l,h with
 | [a],_=>exact ⟨a,rfl⟩
theorem kkl {α:Type} {l:List α} (h:l.length=3):∃ a b c,l=[a,b,c]:=by
 match l,h with
 | [a,b,c],_=>exact ⟨a,b,c,rfl⟩
theorem kly (ks:List E):(pKs ks).map (·.2)=ks.map pE:=by rw [kha,List.map_map];rfl
section
variable {k n:Int} {s:List UInt8} {ns:List (List UInt8)} {os:List Int} {a b:Int}
theorem kCY {n:Int} (h:0<=n):Pz (.mk 1 n [] [] [] [] a b):=by
 refine kcY (b:=(3,Go.Lib.itoa n,n)) (r:=[]) rfl ?_ (kzT (by decide) (by decide)) fun l hl i ho hs=>?_
 · rw [pE];show tks (pnum n)=_;rw [kdi h];rfl
 · obtain ⟨h0,h1,h2⟩:=kaj ho
   apply kdF
   · rw [kaC hl _ i h0]
     exact kbJ.trans ((kqd (kaX h1)).trans (km4.trans ka9))
   · rw [sE,sE,b_n h1]
theorem kzU {n:Int} (h:n=0∨n=1):Pz (.mk 2 n [] [] [] [] a b):=by
 rcases h with rfl | rfl
 · refine kcY (b:=(2,kdx,0)) (r:=[]) rfl (by rw [pE];rfl) ⟨by decide,by decide,fun _=>by decide,fun _=>by decide⟩ fun l hl i ho hs=>?_
   obtain ⟨h0,h1,h2⟩:=kaj ho
   apply kdF
   · rw [kaC hl _ i h0]
     exact kbJ.trans ((ket (by rw [kaX h1];decide)).trans ((ket (by rw [kaX h1];decide)).trans ((kav h1 (by decide)).trans ((ka3 h1 (by decide)).trans ka9))))
   · rw [sE,sE]
 · refine kcY (b:=(2,kgC,0)) (r:=[]) rfl (by rw [pE];rfl) ⟨by decide,by decide,fun _=>by decide,fun _=>by decide⟩ fun l hl i ho hs=>?_
   obtain ⟨h0,h1,h2⟩:=kaj ho
   apply kdF
   · rw [kaC hl _ i h0]
     exact kbJ.trans ((ket (by rw [kaX h1];decide)).trans ((ket (by rw [kaX h1];decide)).trans ((ka3 h1 (by decide)).trans ka9)))
   · rw [sE,sE]
theorem kCZ:Pz (.mk 3 0 s [] [] [] a b):=by
 refine kcY (b:=(1,s,0)) (r:=[]) rfl (by rw [pE];rfl) (kzT (by decide) (by decide)) fun l hl i ho hs=>?_
 obtain ⟨h0,h1,h2⟩:=kaj ho
 apply kdF
 · rw [kaC hl _ i h0]
   exact kbJ.trans ((ket (by rw [kaX h1];decide)).trans ((kqd (kaX h1)).trans (km4.trans ((r_no hs).trans ka9))))
 · rw [sE,sE,kdP h1]
theorem kzV {ks:List E} (H:∀ x∈ks,Pz x):Pz (.mk 4 0 s [] [] ks a b):=by
 refine kcY (b:=(1,s,0)) (r:=(4,wLp,0) :: (tks (commas (ks.map pE))++[(4,wRp,0)])) rfl ?_ (kzT (by decide) (by decide)) fun l hl i ho hs=>?_
 · rw [pE]
   show tks (pn s :: pg wLp :: (commas ((pKs ks).map (·.2))++[pg wRp]))=_
   rw [kly]
   simp only [tks,kaW]
 · obtain ⟨h0,h1,h2,h3,h4⟩:=kaj ho
   obtain ⟨xs,h5,h6⟩:=list_ok hl (.inl rfl) ks H _ h4
   apply kdF
   · rw [kaC hl _ i h0]
     refine r_at (kbJ.trans ((ket (by rw [kaX h1];decide)).trans ((kqd (kaX h1)).trans (km4.trans ((ka3 h3 (by decide)).trans ((kaw h6).trans ka9)))))) ?_
     simp only [List.length_cons,List.length_append,List.length_nil]
     omega
   · rw [sE,sE,kdP h1,h5]
theorem kC0 {ks:List E} (h2:2<=ks.length) (H:∀ x∈ks,Pz x):Pz (.mk 5 0 [] [] [] ks a b):=by
 match ks,h2,H with
 | x :: y :: r,_,H =>
  refine kcY (b:=(4,wLp,0)) (r:=tks (pE x)++((4,wCm,0) :: (tks (pE y)++(tl (r.map pE)++[(4,wRp,0)])))) rfl ?_ (kqf 8) fun l hl i ho hs=>?_
  · rw [pE]
    show tks (pg wLp :: (commas ((pKs (x :: y :: r)).map (·.2))++[pg wRp]))=_
    rw [kly]
    simp only [tks,kaW,List.map_cons,kcl,tl,List.append_assoc,List.cons_append]
  · obtain ⟨h0,h1,h2⟩:=kaj ho
    obtain ⟨h3,h4⟩:=Occ.app h2
    obtain ⟨h5,h6,h7⟩:=kaj h4
    obtain ⟨h8,h9⟩:=Occ.app h7
    obtain ⟨x',hx,hpx⟩:=(H x (by simp)).at0 hl h3 (kaO h6 (by decide))
    have hst:Stp 0 (tk l (i+1+(tks (pE x)).length+1+(tks (pE y)).length)):=by
     cases r with
     | nil =>
      obtain ⟨_,h5,_⟩:=kaj h9
      exact kaO h5 (by decide)
     | cons z q =>
      obtain ⟨_,h5,_⟩:=kaj (show Occ l _ ((4,wCm,0) :: _) from h9)
      exact kaO h5 (by decide)
    obtain ⟨y',hy,hpy⟩:=(H y (by simp)).at0 hl h8 hst
    obtain ⟨xs,hxs,hps⟩:=rest_ok hl (.inl rfl) r (fun z hz=>H z (by simp [hz])) _ h9
    apply kdF
    · rw [khh hl h0 h1]
      refine r_at ((kaw hpx).trans ((kav h6 (by decide)).trans ((kaM h6 (by decide)).trans ((kaw hpy).trans ((kaw hps).trans ka9))))) ?_
      simp only [List.length_cons,List.length_append,List.length_nil]
      omega
    · rw [sE,sE,sEs,sEs,sEs,sEs,hx,hy,hxs]
theorem kzW {ks:List E} (H:∀ x∈ks,Pz x):Pz (.mk 6 0 [] [] [] ks a b):=by
 refine kcY (b:=(4,wLb,0)) (r:=tks (commas (ks.map pE))++[(4,wRb,0)]) rfl ?_ ⟨by decide,by decide,fun _=>by decide,fun _=>by decide⟩ fun l hl i ho hs=>?_
 · rw [pE]
   show tks (pg wLb :: (commas ((pKs ks).map (·.2))++[pg wRb]))=_
   rw [kly]
   simp only [tks,kaW]
 · obtain ⟨h0,h1,h2⟩:=kaj ho
   obtain ⟨xs,h5,h6⟩:=list_ok hl (.inr rfl) ks H _ h2
   apply kdF
   · rw [kaC hl _ i h0]
     refine r_at (kbJ.trans ((ket (by rw [kaX h1];decide)).trans ((ket (by rw [kaX h1];decide)).trans ((kav h1 (by decide)).trans ((kav h1 (by decide)).trans ((kav h1 (by decide)).trans ((ka3 h1 (by decide)).trans ((kaw h6).trans ka9)))))))) ?_
     simp only [List.length_cons,List.length_append,List.length_nil]
     omega
   · rw [sE,sE,h5]
theorem kzX {ks:List E} (h1:1<=os.length) (he:ks.length=os.length) (h0:∀ o∈os,0<=o) (H:∀ x∈ks,Pz x):Pz (.mk 13 0 [] [] os ks a b):=by
 refine kcY (b:=(2,kj8,0)) (r:=(4,wLc,0) :: (tks (commas (picks os (pKs ks)))++[(4,wRc,0)])) rfl ?_ ⟨by decide,by decide,fun _=>by decide,fun _=>by decide⟩ fun l hl i ho hs=>?_
 · rw [pE]
   show tks (pwd kj8 :: .sp :: pg wLc :: .sp :: (commas (picks os (pKs ks))++[.sp,pg wRc]))=_
   simp only [tks,kaW]
 · obtain ⟨h2,h3,h4,h5,h6⟩:=kaj ho
   obtain ⟨xs,h7,h8⟩:=pick_ok hl os ks he.symm h1 h0 H _ h6
   apply kdF
   · rw [kaC hl _ i h2]
     refine r_at (kbJ.trans ((ket (by rw [kaX h3];decide)).trans ((ket (by rw [kaX h3];decide)).trans ((kav h3 (by decide)).trans ((kav h3 (by decide)).trans ((kav h3 (by decide)).trans ((kav h3 (by decide)).trans
      ((ka3 h3 (by decide)).trans ((kaM h5 (by decide)).trans ((kaw h8).trans ka9)))))))))) ?_
     simp only [List.length_cons,List.length_append,List.length_nil]
     omega
   · rw [sE,sE,h7]
theorem kzY {p q:Int} (hp:0<=p) (hq:0<=q):Pz (.mk 14 0 [] [] [p,q] [] a b):=by
 refine kcY (b:=(2,kj9,0)) (r:=(4,wLp,0) :: ((tks (pnum p)++(4,wSl,0) :: tks (pnum q))++[(4,wRp,0)])) rfl ?_ ⟨by decide,by decide,fun _=>by decide,fun _=>by decide⟩ fun l hl i ho hs=>?_
 · rw [pE]
   show tks (pwd kj9 :: pg wLp :: (pnum p++pg wSl :: (pnum q++[pg wRp])))=_
   simp only [tks,kaW,List.append_assoc,List.cons_append]
 · obtain ⟨h2,h3,h4,h5,h6⟩:=kaj ho
   obtain ⟨h7,h8⟩:=Occ.app h6
   have h9:=share_ok hl hp hq h7
   have e3:(tks (pnum p)++(4,wSl,0) :: tks (pnum q)).length=3:=by rw [kdi hp,kdi hq];rfl
   rw [e3] at h8
   obtain ⟨h10,h11,h12⟩:=kaj h8
   apply kdF
   · rw [kaC hl _ i h2]
     refine r_at (kbJ.trans ((ket (by rw [kaX h3];decide)).trans ((ket (by rw [kaX h3];decide)).trans ((kav h3 (by decide)).trans ((kav h3 (by decide)).trans ((kav h3 (by decide)).trans ((kav h3 (by decide)).trans
      ((kav h3 (by decide)).trans ((ka3 h3 (by decide)).trans ((kaM h5 (by decide)).trans ((kaw h9).trans ((kaM h11 (by decide)).trans ka9)))))))))))) ?_
     rw [List.length_cons,List.length_cons,List.length_append,e3]
     simp only [List.length_cons,List.length_nil]
   · rw [sE,sE]
theorem kt0 {p q:Int}:Pz (.mk 15 0 [] [] [p,q] [] a b):=by
 refine kcY (b:=(2,kgn,0)) (r:=(4,wLp,0) :: (tks (pnum p)++(4,wCm,0) :: (tks (pnum q)++[(4,wRp,0)]))) rfl ?_ ⟨by decide,by decide,fun _=>by decide,fun _=>by decide⟩ fun l hl i ho hs=>?_
 · rw [pE]
   show tks (pwd kgn :: pg wLp :: (pnum p++pg wCm :: .sp :: (pnum q++[pg wRp])))=_
   simp only [tks,kaW,List.append_assoc,List.cons_append]
 · obtain ⟨h2,h3,h4,h5,h6⟩:=kaj ho
   obtain ⟨h7,h8⟩:=Occ.app h6
   obtain ⟨h9,h10,h11⟩:=kaj h8
   obtain ⟨h12,h13⟩:=Occ.app h11
   obtain ⟨h14,h15,h16⟩:=kaj h13
   apply kdF
   · rw [kaC hl _ i h2]
     refine r_at (kbJ.trans ((ket (by rw [kaX h3];decide)).trans ((ket (by rw [kaX h3];decide)).trans ((kav h3 (by decide)).trans ((kav h3 (by decide)).trans ((kav h3 (by decide)).trans ((kav h3 (by decide)).trans
      ((kav h3 (by decide)).trans ((kav h3 (by decide)).trans ((ka3 h3 (by decide)).trans ((kaM h5 (by decide)).trans ((kaw (bound_ok hl h7)).trans ((kaM h10 (by decide)).trans ((kaw (bound_ok hl h12)).trans ((kaM h15 (by decide)).trans ka9))))))))))))))) ?_
     simp only [List.length_cons,List.length_append,List.length_nil]
     omega
   · rw [sE,sE]
end
section
variable {a b:Int}
theorem pz_if {x y z:E} (hx:Pz x) (hy:Pz y) (hz:Pz z):Pz (.mk 9 0 [] [] [] [x,y,z] a b):=by
 refine kfT (b:=(2,wIf,0)) (r:=tks (pE x)++(2,kj7,0) :: (tks (pE y)++(2,kiX,0) :: tks (pE z))) rfl ?_ ⟨by decide,by decide,fun h=>by omega,fun h=>by omega⟩ fun l hl i ho hs=>?_
 · rw [pE]
   simp only [pKs]
   show tks (pwd wIf :: .sp :: (pE x++.sp :: pwd kj7 :: .sp :: (pE y++.sp :: pwd kiX :: .sp :: pE z)))=_
   simp only [tks,kaW]
 · obtain ⟨h0,h1,h2⟩:=kaj ho
   obtain ⟨h3,h4⟩:=Occ.app h2
   obtain ⟨h5,h6,h7⟩:=kaj h4
   obtain ⟨h8,h9⟩:=Occ.app h7
   obtain ⟨h10,h11,h12⟩:=kaj h9
   obtain ⟨x',ex,px⟩:=hx.at0 hl h3 (kaO h6 (by decide))
   obtain ⟨y',ey,py⟩:=hy.at0 hl h8 (kaO h11 (by decide))
   have ee:i+((2,wIf,0) :: (tks (pE x)++(2,kj7,0) :: (tks (pE y)++(2,kiX,0) :: tks (pE z))):List Bt).length=i+1+(tks (pE x)).length+1+(tks (pE y)).length+1+(tks (pE z)).length:=by
    simp only [List.length_cons,List.length_append];omega
   rw [ee] at hs ⊢
   obtain ⟨z',ez,pz⟩:=hz.at0 hl h12 hs
   apply kdF
   · rw [kaC hl _ i h0]
     exact kbJ.trans ((kav h1 (by decide)).trans ((ka3 h1 (by decide)).trans ((kaw px).trans ((kaM h6 (by decide)).trans ((kaw py).trans ((kaM h11 (by decide)).trans ((kaw pz).trans ka9)))))))
   · rw [sE,sE,sEs,sEs,sEs,sEs,sEs,sEs,sEs,sEs,ex,ey,ez]
theorem kC1 {x y:E} (hx:Pz x) (hy:Pz y):Pz (.mk 11 0 [] [] [] [x,y] a b):=by
 refine kfT (b:=(2,kbK,0)) (r:=tks (pE x)++(2,wIn,0) :: tks (pE y)) rfl ?_ ⟨by decide,by decide,fun h=>by omega,fun h=>by omega⟩ fun l hl i ho hs=>?_
 · rw [pE]
   simp only [pKs]
   show tks (pwd kbK :: .sp :: (pE x++.sp :: pwd wIn :: .sp :: pE y))=_
   simp only [tks,kaW]
 · obtain ⟨h0,h1,h2⟩:=kaj ho
   obtain ⟨h3,h4⟩:=Occ.app h2
   obtain ⟨h5,h6,h7⟩:=kaj h4
   obtain ⟨x',ex,px⟩:=hx.at0 hl h3 (kaO h6 (by decide))
   have ee:i+((2,kbK,0) :: (tks (pE x)++(2,wIn,0) :: tks (pE y)):List Bt).length=i+1+(tks (pE x)).length+1+(tks (pE y)).length:=by
    simp only [List.length_cons,List.length_append];omega
   rw [ee] at hs ⊢
   obtain ⟨y',ey,py⟩:=hy.at0 hl h7 hs
   apply kdF
   · rw [kaC hl _ i h0]
     exact kbJ.trans ((kav h1 (by decide)).trans ((kav h1 (by decide)).trans ((kav h1 (by decide)).trans ((ka3 h1 (by decide)).trans ((kaw px).trans ((kaM h6 (by decide)).trans ((kaw py).trans ka9)))))))
   · rw [sE,sE,sEs,sEs,sEs,sEs,sEs,sEs,ex,ey]
theorem kt1 {p q:Int} (hp:0<=p) (hq:0<=q) {x:E} (hx:Pz x):Pz (.mk 12 0 [] [] [p,q] [x] a b):=by
 refine kfT (b:=(2,kdw,0)) (r:=(tks (pnum p)++(4,wSl,0) :: tks (pnum q))++(2,wIn,0) :: tks (pE x)) rfl ?_ ⟨by decide,by decide,fun h=>by omega,fun h=>by omega⟩ fun l hl i ho hs=>?_
 · rw [pE]
   simp only [pKs]
   show tks (pwd kdw :: .sp :: (pnum p++pg wSl :: (pnum q++.sp :: pwd wIn :: .sp :: pE x)))=_
   simp only [tks,kaW,List.append_assoc,List.cons_append]
 · obtain ⟨h0,h1,h2⟩:=kaj ho
   obtain ⟨h3,h4⟩:=Occ.app h2
   have h9:=share_ok hl hp hq h3
   have e3:(tks (pnum p)++(4,wSl,0) :: tks (pnum q)).length=3:=by rw [kdi hp,kdi hq];rfl
   rw [e3] at h4
   obtain ⟨h5,h6,h7⟩:=kaj h4
   have ee:i+((2,kdw,0) :: ((tks (pnum p)++(4,wSl,0) :: tks (pnum q))++(2,wIn,0) :: tks (pE x)):List Bt).length=i+1+3+1+(tks (pE x)).length:=by
    rw [List.length_cons,List.length_append,e3,List.length_cons];omega
   rw [ee] at hs ⊢
   obtain ⟨x',ex,px⟩:=hx.at0 hl h7 hs
   apply kdF
   · rw [kaC hl _ i h0]
     exact kbJ.trans ((kav h1 (by decide)).trans ((kav h1 (by decide)).trans ((kav h1 (by decide)).trans ((kav h1 (by decide)).trans ((ka3 h1 (by decide)).trans ((kaw h9).trans ((kaM h6 (by decide)).trans ((kaw px).trans ka9))))))))
   · rw [sE,sE,sEs,sEs,sEs,sEs,ex]
theorem kzZ {u v:List UInt8} {x y z:E} (hx:Pz x) (hy:Pz y) (hz:Pz z):Pz (.mk 10 0 [] [u,v] [] [x,y,z] a b):=by
 refine kfT (b:=(2,kgB,0)) (r:=tks (pE x)++(2,wOf,0) :: (4,wLb,0) :: (4,wRb,0) :: (4,wAr,0) :: (tks (pE y)++(4,wBar,0) :: (1,u,0) :: (4,wCc,0) :: (1,v,0) :: (4,wAr,0) :: tks (pE z))) rfl ?_ ⟨by decide,by decide,fun h=>by omega,fun h=>by omega⟩ fun l hl i ho hs=>?_
 · rw [pE]
   simp only [pKs]
   show tks (pwd kgB :: .sp :: (pE x++.sp :: pwd wOf :: .sp :: pg wLb :: pg wRb :: .sp :: pg wAr :: .sp :: (pE y ++
    .sp :: pg wBar :: .sp :: pn u :: .sp :: pg wCc :: .sp :: pn v :: .sp :: pg wAr :: .sp :: pE z)))=_
   simp only [tks,kaW]
 · obtain ⟨h0,h1,h2⟩:=kaj ho
   obtain ⟨h3,h4⟩:=Occ.app h2
   obtain ⟨h5,h6,h7,h8,h9,h10,h11,h12,h13⟩:=kaj h4
   obtain ⟨h14,h15⟩:=Occ.app h13
   obtain ⟨h16,h17,h18,h19,h20,h21,h22,h23,h24,h25,h26⟩:=kaj h15
   obtain ⟨x',ex,px⟩:=hx.at0 hl h3 (kaO h6 (by decide))
   obtain ⟨y',ey,py⟩:=hy.at0 hl h14 (kaO h17 (by decide))
   have ee:i+((2,kgB,0) :: (tks (pE x)++(2,wOf,0) :: (4,wLb,0) :: (4,wRb,0) :: (4,wAr,0) :: (tks (pE y)++(4,wBar,0) :: (1,u,0) :: (4,wCc,0) :: (1,v,0) :: (4,wAr,0) :: tks (pE z))):List Bt).length =
    i+1+(tks (pE x)).length+1+1+1+1+(tks (pE y)).length+1+1+1+1+1+(tks (pE z)).length:=by
    simp only [List.length_cons,List.length_append];omega
   rw [ee] at hs ⊢
   obtain ⟨z',ez,pz⟩:=hz.at0 hl h26 hs
   apply kdF
   · rw [kaC hl _ i h0]
     exact kbJ.trans ((kav h1 (by decide)).trans ((kav h1 (by decide)).trans ((ka3 h1 (by decide)).trans ((kaw px).trans ((kaM h6 (by decide)).trans ((kaM h8 (by decide)).trans ((kaM h10 (by decide)).trans ((kaM h12 (by decide)).trans
      ((kaw py).trans ((kaM h17 (by decide)).trans ((kcu (kaX h19)).trans ((kaM h21 (by decide)).trans ((kcu (kaX h23)).trans ((kaM h25 (by decide)).trans ((kaw pz).trans ka9)))))))))))))))
   · rw [sE,sE,sEs,sEs,sEs,sEs,sEs,sEs,sEs,sEs,ex,ey,ez,kdP h19,kdP h23]
theorem lets_ok {l:List Tok} (hl:GoodL l) {t:Tok} {ns:List (List UInt8)} {x y:E} (hx:Pz x) (hy:Pz y) {i:Nat} (ho:Occ l i ((4,wEq,0) :: (tks (pE x)++(2,wIn,0) :: tks (pE y))))
 (hs:Stp 0 (tk l (i+1+(tks (pE x)).length+1+(tks (pE y)).length))):∃ x' y',sE x'=sE x∧sE y'=sE y∧run (pw l) l (lets t ns) i=.ok (E.mk 8 0 [] ns [] [x',y'] t.line t.col) (i+1+(tks (pE x)).length+1+(tks (pE y)).length):=by
 obtain ⟨h0,h1,h2⟩:=kaj ho
 obtain ⟨h3,h4⟩:=Occ.app h2
 obtain ⟨h5,h6,h7⟩:=kaj h4
 obtain ⟨x',ex,px⟩:=hx.at0 hl h3 (kaO h6 (by decide))
 obtain ⟨y',ey,py⟩:=hy.at0 hl h7 hs
 exact ⟨x',y',ex,ey,(kaM h1 (by decide)).trans ((kaw px).trans ((kaM h6 (by decide)).trans ((kaw py).trans ka9)))⟩
theorem kC2 {ns:List (List UInt8)} (hn:1<=ns.length) {x y:E} (hx:Pz x) (hy:Pz y):Pz (.mk 8 0 [] ns [] [x,y] a b):=by
 have sta:Sta 0 ((2,wLet,0):Bt):=⟨by decide,by decide,fun h=>by omega,fun h=>by omega⟩
 match ns,hn with
 | [u],_ =>
  refine kfT (b:=(2,wLet,0)) (r:=(1,u,0) :: (4,wEq,0) :: (tks (pE x)++(2,wIn,0) :: tks (pE y))) rfl ?_ sta fun l hl i ho hs=>?_
  · rw [pE]
    simp only [pKs]
    show tks (pwd wLet :: .sp :: ([pn u]++.sp :: pg wEq :: .sp :: (pE x++.sp :: pwd wIn :: .sp :: pE y)))=_
    simp only [tks,kaW]
    rfl
  · obtain ⟨h0,h1,h2,h3,h4⟩:=kaj ho
    have ee:i+((2,wLet,0) :: (1,u,0) :: (4,wEq,0) :: (tks (pE x)++(2,wIn,0) :: tks (pE y)):List Bt).length=i+1+1+1+(tks (pE x)).length+1+(tks (pE y)).length:=by
     simp only [List.length_cons,List.length_append];omega
    rw [ee] at hs ⊢
    obtain ⟨x',y',ex,ey,hp⟩:=lets_ok (t:=tk l i) (ns:=[(tk l (i+1)).text]) hl hx hy h4 hs
    apply kdF
    · rw [kaC hl _ i h0]
      exact kbJ.trans ((ka3 h1 (by decide)).trans ((kav h3 (kkj (by decide) (by decide))).trans ((kcu (kaX h3)).trans hp)))
    · rw [sE,sE,sEs,sEs,sEs,sEs,sEs,sEs,ex,ey,kdP h3]
 | u :: v :: r,_ =>
  refine kfT (b:=(2,wLet,0)) (r:=(4,wLp,0) :: (1,u,0) :: (4,wCm,0) :: (1,v,0) :: ((tl (r.map fun x=>[pn x])++[(4,wRp,0)])++(4,wEq,0) :: (tks (pE x)++(2,wIn,0) :: tks (pE y)))) rfl ?_ sta fun l hl i ho hs=>?_
  · rw [pE]
    simp only [pKs]
    show tks (pwd wLet :: .sp :: ((pg wLp :: (commas ([pn u] :: [pn v] :: r.map fun x=>[pn x])++[pg wRp]))++.sp :: pg wEq :: .sp :: (pE x++.sp :: pwd wIn :: .sp :: pE y)))=_
    simp only [tks,kaW,kcl,tl,List.append_assoc,List.cons_append,List.nil_append]
  · obtain ⟨h0,h1,h2,h3,h4,h5,h6,h7,h8,h9,h10⟩:=kaj ho
    obtain ⟨h11,h12⟩:=Occ.app h10
    have hn:=names_ok hl r _ h11
    have ee:i+((2,wLet,0) :: (4,wLp,0) :: (1,u,0) :: (4,wCm,0) :: (1,v,0) :: ((tl (r.map fun x=>[pn x])++[(4,wRp,0)])++(4,wEq,0) :: (tks (pE x)++(2,wIn,0) :: tks (pE y))):List Bt).length =
     i+1+1+1+1+1+(tl (r.map fun x=>[pn x])++[(4,wRp,0)]).length+1+(tks (pE x)).length+1+(tks (pE y)).length:=by
     simp only [List.length_cons,List.length_append];omega
    rw [ee] at hs ⊢
    obtain ⟨x',y',ex,ey,hp⟩:=lets_ok (t:=tk l i) (ns:=(tk l (i+1+1)).text :: (tk l (i+1+1+1+1)).text :: r) hl hx hy h12 hs
    have e2:i+1+1+1+1+1+(tl (r.map fun x=>[pn x])).length+1=i+1+1+1+1+1+(tl (r.map fun x=>[pn x])++[(4,wRp,0)]).length:=by
     rw [List.length_append,List.length_singleton];omega
    rw [e2] at hn
    apply kdF
    · rw [kaC hl _ i h0]
      exact kbJ.trans ((ka3 h1 (by decide)).trans ((ka3 h3 (by decide)).trans ((kcu (kaX h5)).trans ((kaM h7 (by decide)).trans ((kcu (kaX h9)).trans ((kaw hn).trans hp))))))
    · rw [sE,sE,sEs,sEs,sEs,sEs,sEs,sEs,ex,ey,kdP h5,kdP h9]
theorem pz_un {s:List UInt8} (h:s=wNeg∨s=wNot) {x:E} (hx:Pz x):Pz (.mk 7 0 s [] [] [x] a b):=by
 rcases h with rfl | rfl
 · have ht:tks (pE (.mk 7 0 wNeg [] [] [x] a b))=(4,wMi,0) :: tks (par 7 (x.rk,pE x)):=by
    rw [pE]
    simp only [pKs]
    rfl
   refine ⟨⟨_,_,ht,by decide,by decide,fun _=>by decide,fun h=>absurd h (show ¬ 8<=7 by decide)⟩,fun l hl i ho hs=>?_,fun n hn hr=>absurd hr (show ¬ (7=n+1) by omega)⟩
   rw [ht] at ho hs ⊢
   obtain ⟨h0,h1,h2⟩:=kaj ho
   have ee:i+((4,wMi,0) :: tks (par 7 (x.rk,pE x)):List Bt).length=i+1+(tks (par 7 (x.rk,pE x))).length:=by rw [List.length_cons];omega
   rw [ee] at hs ⊢
   obtain ⟨x',ex,px⟩:=hx.at_ hl (by decide) h2 hs
   apply kdF
   · show pw l .unary i=_
     rw [kaC hl _ i h0]
     exact kbJ.trans ((kav h1 (by decide)).trans ((ka3 h1 (by decide)).trans ((kaw px).trans ka9)))
   · rw [sE,sE,sEs,sEs,sEs,sEs,ex]
 · have ht:tks (pE (.mk 7 0 wNot [] [] [x] a b))=(2,wNot,0) :: tks (par 7 (x.rk,pE x)):=by
    rw [pE]
    simp only [pKs]
    rfl
   refine ⟨⟨_,_,ht,by decide,by decide,fun _=>by decide,fun h=>absurd h (show ¬ 8<=7 by decide)⟩,fun l hl i ho hs=>?_,fun n hn hr=>absurd hr (show ¬ (7=n+1) by omega)⟩
   rw [ht] at ho hs ⊢
   obtain ⟨h0,h1,h2⟩:=kaj ho
   have ee:i+((2,wNot,0) :: tks (par 7 (x.rk,pE x)):List Bt).length=i+1+(tks (par 7 (x.rk,pE x))).length:=by rw [List.length_cons];omega
   rw [ee] at hs ⊢
   obtain ⟨x',ex,px⟩:=hx.at_ hl (by decide) h2 hs
   apply kdF
   · show pw l .unary i=_
     rw [kaC hl _ i h0]
     exact kbJ.trans ((ka3 h1 (by decide)).trans ((kaw px).trans ka9))
   · rw [sE,sE,sEs,sEs,sEs,sEs,ex]
theorem kqh {s:List UInt8} (h0:0 < lvl s) (h7:lvl s < 7):∃ n,n < 6∧lvl s=n+1∧s∈kbk n:=by
 unfold lvl at *
 by_cases a1:s=wOr
 · exact ⟨0,by decide,by rw [if_pos a1],by simp [kbk,a1]⟩
 rw [if_neg a1] at h0 h7 ⊢
 by_cases a2:s=wAnd
 · exact ⟨1,by decide,by rw [if_pos a2],by simp [kbk,a2]⟩
 rw [if_neg a2] at h0 h7 ⊢
 by_cases a3:s=kia∨s=wLt∨s=wLe
 · exact ⟨2,by decide,by rw [if_pos a3],by simpa [kbk] using a3⟩
 rw [if_neg a3] at h0 h7 ⊢
 by_cases a4:s=wCc
 · exact ⟨3,by decide,by rw [if_pos a4],by simp [kbk,a4]⟩
 rw [if_neg a4] at h0 h7 ⊢
 by_cases a5:s=wPl∨s=wMi
 · exact ⟨4,by decide,by rw [if_pos a5],by simpa [kbk] using a5⟩
 rw [if_neg a5] at h0 h7 ⊢
 by_cases a6:s=wTi∨s=wSl∨s=wPc
 · exact ⟨5,by decide,by rw [if_pos a6],by simpa [kbk] using a6⟩
 rw [if_neg a6] at h0 h7 ⊢
 by_cases a7:s=wNot∨s=wNeg
 · rw [if_pos a7] at h7;omega
 · rw [if_neg a7] at h0;omega
def opB (s:List UInt8):Bt:=if s=wOr∨s=wAnd then (2,s,0) else (4,s,0)
theorem pop_t (s:List UInt8):pop s=.t (opB s):=by
 unfold pop opB
 split<;>rfl
theorem kt2 (s:List UInt8):(opB s).2.1=s:=by
 unfold opB
 split<;>rfl
theorem kxS:∀ n,n < 6->∀ s∈kbk n,isB s (opB s)=true∧isB wLp (opB s)=false∧∀ m,m < 6->n < m->∀ u∈kbk m,isB u (opB s)=false:=by decide
theorem kxT {t:Tok} {n:Nat} {s:List UInt8} (hn:n < 6) (hs:s∈kbk n) (h:bare t=opB s):Stp (n+1) t:=by
 obtain ⟨h1,h2,h3⟩:=kxS n hn s hs
 exact kCV h (fun m hm h6 u hu=>h3 m h6 (by omega) u hu) h2
theorem kxU {l:List Tok} {i n:Nat} {s:List UInt8} (hn:n < 6) (hs:s∈kbk n) (h:bare (tk l i)=opB s) (hl:GoodL l) (hi:i < l.length) (x:E):pw l (.loop n x) i =
 run (pw l) l (.call (.level (if n=3 then 3 else n+1)) fun r=>if n=2∨n=3 then .ret (E.mk 7 0 s [] [] [x,r] (tk l i).line (tk l i).col) else .call (.loop n (E.mk 7 0 s [] [] [x,r] (tk l i).line (tk l i).col)) .ret) (i+1):=by
 rw [kaC hl _ i hi]
 refine (kqe _ ⟨s,hs,?_⟩).trans (kbJ.trans (km4.trans ?_))
 · rw [klx,h];exact (kxS n hn s hs).1
 · have:(tk l i).text=s:=by rw [<- kt2 s,<- h];rfl
   rw [this]
theorem kxV {l:List Tok} {n i:Nat} (hn:n < 6):pq l (n+1) i=pw l (.level n) i:=by
 unfold pq
 rw [if_neg (by omega),if_pos (by omega)]
 rfl
theorem klz {l:List Tok} (hl:GoodL l) {n i:Nat} (hn:n<=6) (hi:i < l.length):pq l (n+1) i=pw l (.level n) i:=by
 by_cases h:n < 6
 · exact kxV h
 · rw [show n=6 by omega,khg hl hi];rfl
theorem kC3 {s:List UInt8} (h0:0 < lvl s) (h7:lvl s < 7) {x y:E} (hx:Pz x) (hy:Pz y):Pz (.mk 7 0 s [] [] [x,y] a b):=by
 obtain ⟨n,hn,hlv,hs⟩:=kqh h0 h7
 have hk:E.rk (.mk 7 0 s [] [] [x,y] a b)=n+1:=by
  show rk 7 s=n+1
  unfold rk
  rw [if_pos rfl,hlv]
 have ht:tks (pE (.mk 7 0 s [] [] [x,y] a b))=tks (par (lft s) (x.rk,pE x))++opB s :: tks (par (rgt s) (y.rk,pE y)):=by
  rw [pE]
  simp only [pKs]
  show tks (opf s _)=_
  unfold opf
  rw [if_neg (fun e=>by subst e;exact absurd h7 (by decide)),if_neg (fun e=>by subst e;exact absurd h7 (by decide))]
  rw [kaW,pop_t]
  rfl
 have hlen:∀ i,i+(tks (pE (.mk 7 0 s [] [] [x,y] a b))).length=i+(tks (par (lft s) (x.rk,pE x))).length+1+(tks (par (rgt s) (y.rk,pE y))).length:=fun i=>by
  rw [ht,List.length_append,List.length_cons];omega
 -- the left side alone, at level n's spine or above it
 have spine:∀ (l:List Tok),GoodL l->∀ i,(n=0∨n=1∨n=4∨n=5)->Occ l i (tks (pE (.mk 7 0 s [] [] [x,y] a b)))->Stp (n+1) (tk l (i+(tks (pE (.mk 7 0 s [] [] [x,y] a b))).length)) ->
  ∃ z,sE z=sE (.mk 7 0 s [] [] [x,y] a b)∧pw l (.level n) i=pw l (.loop n z) (i+(tks (pE (.mk 7 0 s [] [] [x,y] a b))).length):=fun l hl i hc ho hst=>by
  rw [hlen] at hst ⊢
  rw [ht] at ho
  have hlf:lft s=n+1:=by unfold lft;rw [if_neg (by omega),hlv]
  have hrg:rgt s=n+2:=by unfold rgt;rw [if_neg (by omega),hlv]
  rw [hlf] at ho hst ⊢
  rw [hrg] at ho hst ⊢
  obtain ⟨h1,h2⟩:=Occ.app ho
  obtain ⟨h3,h4,h5⟩:=kaj h2
  obtain ⟨x',ex,px⟩:=hx.spine' hl hc h1 (kxT hn hs h4)
  obtain ⟨y',ey,py⟩:=hy.at_ hl (by omega) h5 hst
  rw [klz hl (by omega) h5.lt] at py
  refine ⟨E.mk 7 0 s [] [] [x',y'] (tk l (i+(tks (par (n+1) (x.rk,pE x))).length)).line (tk l (i+(tks (par (n+1) (x.rk,pE x))).length)).col,by rw [sE,sE,sEs,sEs,sEs,sEs,sEs,sEs,ex,ey],?_⟩
  rw [px,kxU hn hs h4 hl h3,if_neg (by omega)]
  refine (kaw py).trans ?_
  rw [if_neg (by omega)]
  exact kki
 refine ⟨?_,fun l hl i ho hst=>?_,fun m hm hr l hl i ho hst=>?_⟩
 · obtain ⟨b',r,hb,hsb⟩:=hx.hd
   have hl1:1<=lft s:=by unfold lft;split<;>omega
   rw [ht]
   unfold par
   by_cases h:x.rk < lft s
   · rw [if_pos h]
     exact ⟨(4,wLp,0),_,rfl,kqf _⟩
   · rw [if_neg h]
     refine ⟨b',r++opB s :: _,by rw [hb];rfl,hsb.rp,hsb.rb,fun _=>hsb.ex (by omega),fun h8=>by rw [hk] at h8;omega⟩
 · rw [hk,kxV hn]
   rw [hk] at hst
   by_cases hc:n=0∨n=1∨n=4∨n=5
   · obtain ⟨z,ez,pz⟩:=spine l hl i hc ho (hst.le (by omega))
     exact ⟨z,ez,by rw [pz];exact kkk hl (kja ho) (hst.op n (by omega)) z⟩
   · rw [hlen] at hst ⊢
     rw [ht] at ho
     have hlf:lft s=n+2:=by unfold lft;rw [if_pos (by omega),hlv]
     rw [hlf] at ho hst ⊢
     obtain ⟨h1,h2⟩:=Occ.app ho
     obtain ⟨h3,h4,h5⟩:=kaj h2
     obtain ⟨x',ex,px⟩:=hx.at_ hl (by omega) h1 (kxT hn hs h4)
     rw [klz hl (by omega) h1.lt] at px
     obtain ⟨y',ey,py⟩:=hy.at_ hl (by unfold rgt;split<;>omega) h5 (hst.le (by unfold rgt;split<;>omega))
     have hr:pq l (rgt s) (i+(tks (par (n+2) (x.rk,pE x))).length+1)=pw l (.level (if n=3 then 3 else n+1)) (i+(tks (par (n+2) (x.rk,pE x))).length+1):=by
      by_cases h3:n=3
      · subst h3
        have:rgt s=4:=by unfold rgt;rw [if_pos (by omega)]
        rw [this];rfl
      · have:rgt s=n+2:=by unfold rgt;rw [if_neg (by omega),hlv]
        rw [this,if_neg h3]
        exact klz hl (by omega) h5.lt
     rw [hr] at py
     refine ⟨E.mk 7 0 s [] [] [x',y'] (tk l (i+(tks (par (n+2) (x.rk,pE x))).length)).line (tk l (i+(tks (par (n+2) (x.rk,pE x))).length)).col,by rw [sE,sE,sEs,sEs,sEs,sEs,sEs,sEs,ex,ey],?_⟩
     rw [ki9 hl hn h1.lt px,kxU hn hs h4 hl h3]
     refine (kaw py).trans ?_
     rw [if_pos (by omega)]
     exact ka9
 · have:m=n:=by rw [hk] at hr;omega
   subst this
   exact spine l hl i hm ho hst
end
theorem kqi:∀ (e:E),Right e->Pz e:=by
 intro e he
 induction he with
 | mk k n s ns os ks a b hs _ ih =>
  generalize hn:ks.length=m at hs
  cases hs with
  | num _ h1 h2=>rw [List.eq_nil_of_length_eq_zero hn];exact kCY h1
  | bool _ h=>rw [List.eq_nil_of_length_eq_zero hn];exact kzU h
  | var _ h=>rw [List.eq_nil_of_length_eq_zero hn];exact kCZ
  | call _ _ h=>exact kzV ih
  | tup _ h1 h2=>exact kC0 (by omega) ih
  | list=>exact kzW ih
  | un _ h=>obtain ⟨x,rfl⟩:=kqg hn;exact pz_un h (ih x (by simp))
  | bin _ h1 h2=>obtain ⟨x,y,rfl⟩:=kdK hn;exact kC3 h1 h2 (ih x (by simp)) (ih y (by simp))
  | let_ _ h1 h2 h3=>obtain ⟨x,y,rfl⟩:=kdK hn;exact kC2 h1 (ih x (by simp)) (ih y (by simp))
  | if_=>obtain ⟨x,y,z,rfl⟩:=kkl hn;exact pz_if (ih x (by simp)) (ih y (by simp)) (ih z (by simp))
  | case_ u v h1 h2=>obtain ⟨x,y,z,rfl⟩:=kkl hn;exact kzZ (ih x (by simp)) (ih y (by simp)) (ih z (by simp))
  | obs=>obtain ⟨x,y,rfl⟩:=kdK hn;exact kC1 (ih x (by simp)) (ih y (by simp))
  | score p q h1 h2=>obtain ⟨x,rfl⟩:=kqg hn;exact kt1 (keQ.1 h1).1 (keQ.1 h2).1 (ih x (by simp))
  | pick _ h1 h2=>exact kzX h1 hn (fun o ho=>(keQ.1 (h2 o ho)).1) ih
  | flip p q h1 h2=>rw [List.eq_nil_of_length_eq_zero hn];exact kzY (keQ.1 h1).1 (keQ.1 h2).1
  | range p q h1 h2=>rw [List.eq_nil_of_length_eq_zero hn];exact kt0
section
variable {l:List Tok}
def RdT (t:T):Prop:=∀ (l:List Tok),GoodL l->∀ i,Occ l i (tks (pT t))->pw l .typ i=.ok t (i+(tks (pT t)).length)
theorem kqj (hl:GoodL l):∀ (ts:List T),(∀ x∈ts,RdT x)->∀ i,Occ l i (tl (ts.map pT)++[(4,wRp,0)])->pw l .typs i=.ok ts (i+(tl (ts.map pT)).length+1)
 | [],_,i,ho=>by
  obtain ⟨h0,h1,h2⟩:=kaj ho
  rw [kaC hl _ i h0]
  exact (kav h1 (by decide)).trans ((kaM h1 (by decide)).trans ka9)
 | x :: r,H,i,ho=>by
  obtain ⟨h0,h1,h2⟩:=kaj (show Occ l i ((4,wCm,0) :: (tks (pT x)++tl (r.map pT)++[(4,wRp,0)])) from ho)
  rw [List.append_assoc] at h2
  obtain ⟨h3,h4⟩:=h2.app
  have h6:=H x (by simp) l hl _ h3
  have h8:=kqj hl r (fun z hz=>H z (List.mem_cons_of_mem _ hz)) _ h4
  rw [kaC hl _ i h0]
  refine r_at ((ka3 h1 (by decide)).trans ((kaw h6).trans ((kaw h8).trans ka9))) ?_
  show _=i+((4,wCm,0) :: (tks (pT x)++tl (r.map pT)):List Bt).length+1
  rw [List.length_cons,List.length_append]
  omega
theorem rd_T:∀ (t:T),RightT t->RdT t:=by
 intro t ht
 induction ht with
 | bool l h =>
  subst h
  intro l hl i ho
  rw [pT] at ho ⊢
  obtain ⟨h0,h1,h2⟩:=kaj (show Occ l i [(2,kpV,0)] from ho)
  rw [kaC hl _ i h0]
  exact (ka3 h1 (by decide)).trans ka9
 | int l h =>
  subst h
  intro l hl i ho
  rw [pT] at ho ⊢
  obtain ⟨h0,h1,h2⟩:=kaj (show Occ l i [(2,wInt,0)] from ho)
  rw [kaC hl _ i h0]
  exact (kav h1 (by decide)).trans ((ka3 h1 (by decide)).trans ka9)
 | tup ts h2 h4 _ ih =>
  intro l hl i ho
  match ts,h2,ih with
  | x :: y :: r,_,ih =>
   have e:tks (pT (.mk 3 (x :: y :: r)))=(4,wLp,0) :: (tks (pT x)++(4,wCm,0) :: (tks (pT y)++(tl (r.map pT)++[(4,wRp,0)]))):=by
    rw [pT,ki2]
    show tks (pg wLp :: (commas (pT x :: pT y :: r.map pT)++[pg wRp]))=_
    simp only [tks,kaW,kcl,tl,List.append_assoc,List.cons_append]
   rw [e] at ho ⊢
   obtain ⟨h0,h1,h2⟩:=kaj ho
   obtain ⟨h3,h4⟩:=Occ.app h2
   obtain ⟨h5,h6,h7⟩:=kaj h4
   obtain ⟨h8,h9⟩:=Occ.app h7
   have p1:=ih x (by simp) l hl _ h3
   have p2:=ih y (by simp) l hl _ h8
   have p3:=kqj hl r (fun z hz=>ih z (by simp [hz])) _ h9
   rw [kaC hl _ i h0]
   refine r_at ((kav h1 (by decide)).trans ((kav h1 (by decide)).trans ((kav h1 (by decide)).trans ((kaM h1 (by decide)).trans ((kaw p1).trans ((kaM h6 (by decide)).trans ((kaw p2).trans ((kaw p3).trans ka9)))))))) ?_
   simp only [List.length_cons,List.length_append,List.length_nil]
   omega
 | lst x _ ih =>
  intro l hl i ho
  have e:tks (pT (.mk 4 [x]))=(4,wLb,0) :: (tks (pT x)++[(4,wRb,0)]):=by
   rw [pT,pTs,pTs]
   show tks (pg wLb :: (pT x++[pg wRb]))=_
   simp only [tks,kaW]
  rw [e] at ho ⊢
  obtain ⟨h0,h1,h2⟩:=kaj ho
  obtain ⟨h3,h4⟩:=Occ.app h2
  obtain ⟨h5,h6,h7⟩:=kaj h4
  have p1:=ih l hl _ h3
  rw [kaC hl _ i h0]
  refine r_at ((kav h1 (by decide)).trans ((kav h1 (by decide)).trans ((ka3 h1 (by decide)).trans ((kaw p1).trans ((kaM h6 (by decide)).trans ka9))))) ?_
  simp only [List.length_cons,List.length_append,List.length_nil]
  omega
theorem field_ok (hl:GoodL l) {f:Fld} (hf:kbu f=true) {i:Nat} (ho:Occ l i (tks (pF f))):∃ g,sF g=sF f∧pw l .field i=.ok g (i+(tks (pF f)).length):=by
 obtain ⟨h0,h1,h2,h3,h4⟩:=kaj (show Occ l i ((1,f.name,0) :: (4,wCl,0) :: tks (pT f.typ)) from ho)
 have p1:=rd_T _ (ki3 hf).2 l hl _ h4
 refine ⟨⟨(tk l i).text,f.typ,(tk l i).line,(tk l i).col⟩,by unfold sF;rw [kdP h1],?_⟩
 rw [kaC hl _ i h0]
 refine r_at ((kcu (kaX h1)).trans ((kaM h3 (by decide)).trans ((kaw p1).trans ka9))) ?_
 show _=i+((1,f.name,0) :: (4,wCl,0) :: tks (pT f.typ):List Bt).length
 simp only [List.length_cons]
 omega
theorem kkm (hl:GoodL l):∀ (fs:List Fld),(∀ x∈fs,kbu x=true)->∀ i,Occ l i (tl (fs.map pF)++[(4,wRp,0)])->∃ gs,gs.map sF=fs.map sF∧pw l .fields i=.ok gs (i+(tl (fs.map pF)).length+1)
 | [],_,i,ho=>by
  obtain ⟨h0,h1,h2⟩:=kaj ho
  refine ⟨[],rfl,?_⟩
  rw [kaC hl _ i h0]
  exact (kav h1 (by decide)).trans ((kaM h1 (by decide)).trans ka9)
 | x :: r,H,i,ho=>by
  obtain ⟨h0,h1,h2⟩:=kaj (show Occ l i ((4,wCm,0) :: (tks (pF x)++tl (r.map pF)++[(4,wRp,0)])) from ho)
  rw [List.append_assoc] at h2
  obtain ⟨h3,h4⟩:=h2.app
  obtain ⟨g,e1,h6⟩:=field_ok hl (H x (by simp)) h3
  obtain ⟨gs,e2,h8⟩:=kkm hl r (fun z hz=>H z (List.mem_cons_of_mem _ hz)) _ h4
  refine ⟨g :: gs,by rw [List.map_cons,List.map_cons,e1,e2],?_⟩
  rw [kaC hl _ i h0]
  refine r_at ((ka3 h1 (by decide)).trans ((kaw h6).trans ((kaw h8).trans ka9))) ?_
  show _=i+((4,wCm,0) :: (tks (pF x)++tl (r.map pF)):List Bt).length+1
  rw [List.length_cons,List.length_append]
  omega
theorem kqk (hl:GoodL l) {i j:Nat} (hi:i < l.length) {x:E} (h:pw l .expr i=.ok x j):isT kdy (tk l i)=false∧isT wFun (tk l i)=false:=by
 have key:∀ w,(∀ s,s∈[wLet,wIf,kgB,kbK,kdw,wNot,wMi,kgC,kdx,wLp,wLb,kj8,kj9,kgn]->w ≠ s)->isT w (tk l i)=false:=fun w hw=>by
  cases hq:isT w (tk l i) with
  | false=>rfl
  | true =>
   rw [kzF hl hi (kzH hq hw)] at h
   cases h
 exact ⟨key _ (by decide),key _ (by decide)⟩
theorem kip (hl:GoodL l) {t:Tok} {ps:List Fld} {res:T} {e:E} (hr:RightT res) (he:Right e) {i:Nat} (ho:Occ l i ((4,wCl,0) :: (tks (pT res)++(4,wEq,0) :: (tks (pE e)++[(4,wSc,0)])))) :
 ∃ x,sE x=sE e∧run (pw l) l (kbO t ps) i=.ok ⟨t.text,ps,res,x,t.line,t.col⟩ (i+1+(tks (pT res)).length+1+(tks (pE e)).length+1):=by
 obtain ⟨h0,h1,h2⟩:=kaj ho
 obtain ⟨h3,h4⟩:=Occ.app h2
 obtain ⟨h5,h6,h7⟩:=kaj h4
 obtain ⟨h8,h9⟩:=Occ.app h7
 obtain ⟨h10,h11,h12⟩:=kaj h9
 obtain ⟨x,ex,px⟩:=(kqi _ he).at0 hl h8 (kaO h11 (by decide))
 exact ⟨x,ex,(kaM h1 (by decide)).trans ((kaw (rd_T _ hr l hl _ h3)).trans ((kaM h6 (by decide)).trans ((kaw px).trans ((kaM h11 (by decide)).trans ka9))))⟩
theorem fun_ok (hl:GoodL l) {g:Fnc} (hg:kby g=true) {i:Nat} {r:List Bt} (ho:Occ l i (tks (pFn g)++r)):bare (tk l i)=(2,wFun,0)∧∃ f,sFn f=sFn g∧pw l .fun_ (i+1)=.ok f (i+(tks (pFn g)).length):=by
 unfold kby at hg
 simp only [Bool.and_eq_true] at hg
 obtain ⟨⟨⟨g1,g2⟩,g3⟩,g4⟩:=hg
 have e:tks (pFn g)=(2,wFun,0) :: (1,g.name,0) :: (4,wLp,0) :: (tks (commas (g.params.map pF))++(4,wRp,0) :: ((4,wCl,0) :: (tks (pT g.res)++(4,wEq,0) :: (tks (pE g.body)++[(4,wSc,0)])))):=by
  unfold pFn
  simp only [tks,kaW]
 have ho:=(Occ.app ho).1
 rw [e] at ho ⊢
 obtain ⟨h0,h1,h2,h3,h4,h5,h6⟩:=kaj ho
 refine ⟨h1,?_⟩
 obtain ⟨h7,h8⟩:=Occ.app h6
 obtain ⟨h9,h10,h11⟩:=kaj h8
 have hrr:=ke9 _ _ g3
 have hre:=kde _ _ g4
 cases hp:g.params with
 | nil =>
  rw [hp] at h7 h8 h9 h10 h11
  obtain ⟨x,ex,px⟩:=kip (t:=tk l (i+1)) (ps:=[]) hl hrr hre h11
  refine ⟨⟨(tk l (i+1)).text,[],g.res,x,(tk l (i+1)).line,(tk l (i+1)).col⟩,by unfold sFn;rw [kdP h3,hp,ex],?_⟩
  rw [kaC hl _ _ h2]
  refine r_at ((kcu (kaX h3)).trans ((kaM h5 (by decide)).trans ((ka3 h10 (by decide)).trans px))) ?_
  simp only [List.length_cons,List.length_append,List.length_nil,List.map_nil]
  omega
 | cons f fs =>
  rw [hp] at h7 h8 h9 h10 h11 g1
  rw [List.all_cons,Bool.and_eq_true] at g1
  have hcm:tks (commas ((f :: fs).map pF))=tks (pF f)++tl (fs.map pF):=kcl _ _
  rw [hcm] at h7 h8 h9 h10 h11 ⊢
  obtain ⟨h12,h13⟩:=Occ.app h7
  obtain ⟨f',ef,pf⟩:=field_ok hl g1.1 h12
  have hocc:Occ l (i+1+1+1+(tks (pF f)).length) (tl (fs.map pF)++[(4,wRp,0)]):=by
   have h14:Occ l (i+1+1+1) (tks (pF f)++(tl (fs.map pF)++[(4,wRp,0)])):=by
    have h15:Occ l (i+1+1+1) ((tks (pF f)++tl (fs.map pF))++(4,wRp,0) :: ((4,wCl,0) :: (tks (pT g.res)++(4,wEq,0) :: (tks (pE g.body)++[(4,wSc,0)])))):=by
     have:=h6
     rw [hp,hcm] at this
     exact this
    have h16:(tks (pF f)++tl (fs.map pF))++(4,wRp,0) :: ((4,wCl,0) :: (tks (pT g.res)++(4,wEq,0) :: (tks (pE g.body)++[(4,wSc,0)]))) =
     (tks (pF f)++(tl (fs.map pF)++[(4,wRp,0)]))++((4,wCl,0) :: (tks (pT g.res)++(4,wEq,0) :: (tks (pE g.body)++[(4,wSc,0)]))):=by
     simp only [List.append_assoc,List.cons_append,List.nil_append]
    rw [h16] at h15
    exact (Occ.app h15).1
   exact (Occ.app h14).2
  obtain ⟨gs,eg,pg'⟩:=kkm hl fs (fun z hz=>List.all_eq_true.1 g1.2 z hz) _ hocc
  have hpos:i+1+1+1+(tks (pF f)).length+(tl (fs.map pF)).length+1=i+1+1+1+(tks (pF f)++tl (fs.map pF)).length+1:=by rw [List.length_append];omega
  rw [hpos] at pg'
  obtain ⟨x,ex,px⟩:=kip (t:=tk l (i+1)) (ps:=f' :: gs) hl hrr hre h11
  refine ⟨⟨(tk l (i+1)).text,f' :: gs,g.res,x,(tk l (i+1)).line,(tk l (i+1)).col⟩,by unfold sFn;rw [kdP h3,hp,ex,List.map_cons,List.map_cons,ef,eg],?_⟩
  obtain ⟨_,hb,_⟩:=kaj (show Occ l (i+1+1+1) ((1,f.name,0) :: (4,wCl,0) :: tks (pT f.typ)) from h12)
  rw [kaC hl _ _ h2]
  refine r_at ((kcu (kaX h3)).trans ((kaM h5 (by decide)).trans ((kav hb (kkj (by decide) (by decide))).trans ((kaw pf).trans ((kaw pg').trans px))))) ?_
  simp only [List.length_cons,List.length_append,List.length_nil]
  omega
theorem kql (hl:GoodL l) {e:E} (he:Right e) {r:List Bt}:∀ (gs:List Fnc),gs.all kby=true->∀ i,Occ l i (tks (pFns gs)++(tks (pE e)++r))->Stp 0 (tk l (i+(tks (pFns gs)).length+(tks (pE e)).length)) ->
 ∃ fs x,fs.map sFn=gs.map sFn∧sE x=sE e∧pw l .funs i=.ok fs (i+(tks (pFns gs)).length)∧pw l .expr (i+(tks (pFns gs)).length)=.ok x (i+(tks (pFns gs)).length+(tks (pE e)).length)∧isT kdy (tk l i)=false
 | [],_,i,ho,hs=>by
  obtain ⟨x,ex,px⟩:=(kqi _ he).at0 hl (Occ.app (show Occ l i (tks (pE e)++r) from ho)).1 hs
  have hh:=kqk hl ho.lt px
  exact ⟨[],x,rfl,ex,kpY hl ho.lt hh.2,px,hh.1⟩
 | g :: gs,hg,i,ho,hs=>by
  rw [List.all_cons,Bool.and_eq_true] at hg
  have e1:tks (pFns (g :: gs))=tks (pFn g)++tks (pFns gs):=kaW _ _
  rw [e1] at ho hs ⊢
  rw [List.append_assoc] at ho
  obtain ⟨hb,f,ef,pf⟩:=fun_ok hl hg.1 ho
  obtain ⟨_,h2⟩:=Occ.app ho
  have hlen:i+(tks (pFn g)++tks (pFns gs)).length=i+(tks (pFn g)).length+(tks (pFns gs)).length:=by rw [List.length_append];omega
  rw [hlen] at hs ⊢
  obtain ⟨fs,x,efs,ex,pfs,px,_⟩:=kql hl he gs hg.2 _ h2 hs
  refine ⟨f :: fs,x,by rw [List.map_cons,List.map_cons,ef,efs],ex,?_,px,?_⟩
  · rw [kaC hl _ i ho.lt]
    exact (ka3 hb (by decide)).trans ((kaw pf).trans ((kaw pfs).trans ka9))
  · rw [klx,hb];decide
theorem inputs_ok (hl:GoodL l) {r:List Bt}:∀ (fs:List Fld),fs.all kbu=true->∀ i,Occ l i (tks (pIn fs)++r)->isT kdy (tk l (i+(tks (pIn fs)).length))=false ->
 ∃ gs,gs.map sF=fs.map sF∧pw l .inputs i=.ok gs (i+(tks (pIn fs)).length)
 | [],_,i,ho,hs=>⟨[],rfl,klm hl ho.lt hs⟩
 | f :: fs,hf,i,ho,hs=>by
  rw [List.all_cons,Bool.and_eq_true] at hf
  have e1:tks (pIn (f :: fs))=(2,kdy,0) :: (tks (pF f)++(4,wSc,0) :: tks (pIn fs)):=by
   show tks (pwd kdy :: .sp :: (pF f++pg wSc :: .nl :: pIn fs))=_
   simp only [tks,kaW]
  rw [e1] at ho hs ⊢
  rw [List.cons_append,List.append_assoc] at ho
  obtain ⟨h0,h1,h2⟩:=kaj ho
  obtain ⟨h3,h4⟩:=Occ.app h2
  obtain ⟨h5,h6,h7⟩:=kaj (show Occ l _ ((4,wSc,0) :: (tks (pIn fs)++r)) from h4)
  have hlen:i+((2,kdy,0) :: (tks (pF f)++(4,wSc,0) :: tks (pIn fs)):List Bt).length=i+1+(tks (pF f)).length+1+(tks (pIn fs)).length:=by
   simp only [List.length_cons,List.length_append];omega
  rw [hlen] at hs ⊢
  obtain ⟨g,eg,pg'⟩:=field_ok hl hf.1 h3
  obtain ⟨gs,egs,pgs⟩:=inputs_ok hl fs hf.2 _ h7 hs
  refine ⟨g :: gs,by rw [List.map_cons,List.map_cons,eg,egs],?_⟩
  rw [kaC hl _ i h0]
  exact (ka3 h1 (by decide)).trans ((kaw pg').trans ((kaM h6 (by decide)).trans ((kaw pgs).trans ka9)))
theorem program_ok (hl:GoodL l) {p:Pg} (hp:kbT p=true) (ho:Occ l 0 (tks (pP p))) (hs:Stp 0 (tk l (tks (pP p)).length)):∃ q,sP q=sP p∧pw l .program 0=.ok q (tks (pP p)).length:=by
 unfold kbT at hp
 simp only [Bool.and_eq_true] at hp
 have e1:tks (pP p)=tks (pIn p.inputs)++(tks (pFns p.funs)++(tks (pE p.query)++[])):=by
  unfold pP
  simp only [tks,kaW]
 have hlen:(tks (pP p)).length=0+(tks (pIn p.inputs)).length+(tks (pFns p.funs)).length+(tks (pE p.query)).length:=by
  rw [e1];simp only [List.length_append,List.length_nil];omega
 rw [hlen] at hs ⊢
 rw [e1] at ho
 obtain ⟨h1,h2⟩:=Occ.app ho
 obtain ⟨fs,x,efs,ex,pfs,px,hin⟩:=kql hl (kde _ _ hp.2) p.funs hp.1.2 _ h2 hs
 obtain ⟨gs,egs,pgs⟩:=inputs_ok hl p.inputs hp.1.1 _ ho hin
 refine ⟨⟨gs,fs,x⟩,by unfold sP;rw [egs,efs,ex],?_⟩
 rw [kaC hl _ 0 ho.lt]
 exact (kaw pgs).trans ((kaw pfs).trans ((kaw px).trans ka9))
theorem kqm:∀ (bs:List Bt) (l pre:List Tok),l.map bare=bs++[(5,[],0)]->Occ (pre++l) pre.length bs
 | [],l,pre,h=>by
  have hl:l.length=1:=by rw [<- List.length_map (f:=bare),h];rfl
  show pre.length < (pre++l).length
  rw [List.length_append,hl];omega
 | b :: bs,l,pre,h=>by
  match l,h with
  | t :: r,h =>
   rw [List.map_cons,List.cons_append] at h
   injection h with h1 h2
   refine ⟨by rw [List.length_append,List.length_cons];omega,?_,?_⟩
   · have:tk (pre++t :: r) pre.length=t:=by
      unfold tk
      rw [List.getD_eq_getElem?_getD,List.getElem?_append_right (Nat.le_refl _),Nat.sub_self]
      rfl
     rw [this,h1]
   · have:=kqm bs r (pre++[t]) h2
     rw [List.append_assoc,List.length_append] at this
     exact this
theorem kkn {bs:List Bt} {l:List Tok} (h:l.map bare=bs++[(5,[],0)]):bare (tk l bs.length)=(5,[],0):=by
 have hl:l.length=bs.length+1:=by rw [<- List.length_map (f:=bare),h,List.length_append];rfl
 have:(l.map bare)[bs.length]? = some (5,[],0):=by rw [h,List.getElem?_append_right (Nat.le_refl _),Nat.sub_self];rfl
 rw [List.getElem?_map] at this
 unfold tk
 rw [List.getD_eq_getElem?_getD]
 cases hq:l[bs.length]? with
 | none=>rw [hq] at this;cases this
 | some t=>rw [hq] at this;injection this
end
theorem kC4 {e:E} (he:Right e) {l:List Tok} (hl:GoodL l) (h:l.map bare=tks (pE e)++[(5,[],0)]):∃ x,sE x=sE e∧pw l .expr 0=.ok x (tks (pE e)).length∧(tk l (tks (pE e)).length).kind=5:=by
 have h1:=kkn h
 obtain ⟨x,ex,px⟩:=(kqi _ he).at0 hl (i:=0) (kqm _ l [] h) (by rw [Nat.zero_add];exact kaO h1 (by decide))
 rw [Nat.zero_add] at px
 exact ⟨x,ex,px,kaX h1⟩
theorem kC5 {p:Pg} (hp:kbT p=true) {l:List Tok} (hl:GoodL l) (h:l.map bare=tks (pP p)++[(5,[],0)]):∃ x,sP x=sP p∧pw l .program 0=.ok x (tks (pP p)).length∧(tk l (tks (pP p)).length).kind=5:=by
 have h1:=kkn h
 obtain ⟨x,ex,px⟩:=program_ok hl hp (kqm _ l [] h) (kaO h1 (by decide))
 exact ⟨x,ex,px,kaX h1⟩
end Go.Proofs.YtaphnbaiamnfpaaGreatDoor.Px
