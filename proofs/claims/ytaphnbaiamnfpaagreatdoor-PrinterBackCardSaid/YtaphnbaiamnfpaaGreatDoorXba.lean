/- Trees and tokens as data of the evaluator. The program's lexer: what the plain scanner tells. The program's lexer over a whole text. The printer's names and levels, and the reference's. The reference's names, and what it says of an expression itself. What the reference says of an expression itself; how deep it goes. Rows of trees; small lemmas on them. From what the rows' condition gives to the evaluator, and back: a law that is true runs so. Slices handed in: their elements read as rows, and they are no longer than the form's own reach. What the printer says of an expression itself. What the printer says of an expression itself is what the reference says; the same of all its parts. What is right: expressions, types, programs; the printer's and the reference's. Programs and expressions handed in, as trees. The listed variables, read off the rows' condition. What types are right: the printer's and the reference's. What programs are right: the printer's and the reference's. The reference's text of an expression. The reference's text of an expression: all of it. The printer's writer: what it writes is the text, or it stops where the text is too long. The printer's writer of expressions. Few and FewProgram answer something, whatever they are handed; what Few's yes means. The text of an expression: the printer's and the reference's. The text of a type: the printer's and the reference's. The text of a program: the printer's and the reference's. FewTypes: what its yes means. FewProgram answers something, whatever it is handed: its loops. The law of programs' texts: it holds. What the program's readers are to do, as a relation to the small readers; the steps that all share. The program's reader of types. The program's readers: the steps that read an expression, a field, a list; operators. -/
import Derived.Test.YtaphnbaiamnfpaaGreatDoorPv0
import Derived.Test.YtaphnbaiamnfpaaGreatDoorXaa
import Derived.Test.YtaphnbaiamnfpaaGreatDoorPvL
import Derived.Test.YtaphnbaiamnfpaaGreatDoorPvN
import Derived.Test.YtaphnbaiamnfpaaGreatDoorPvM
import Derived.Test.YtaphnbaiamnfpaaGreatDoorPvT
import Derived.Test.YtaphnbaiamnfpaaGreatDoorQk
import Derived.HandedShaped
import Derived.ProofKit
import Derived.OpenShut
import Derived.Lib.LaidTab
import Derived.LaidMore
import Derived.Test.YtaphnbaiamnfpaaGreatDoorPvV
import Derived.Test.YtaphnbaiamnfpaaGreatDoorRows
import Derived.Stop.Joined
import Derived.Test.YtaphnbaiamnfpaaGreatDoorPvX
import Derived.Test.YtaphnbaiamnfpaaGreatDoorPvW
import Derived.Test.YtaphnbaiamnfpaaGreatDoorPvF
import Derived.Test.YtaphnbaiamnfpaaGreatDoorPvY
import Derived.Test.YtaphnbaiamnfpaaGreatDoorPvP
namespace Go.Proofs.YtaphnbaiamnfpaaGreatDoor.Ps
set_option linter.unusedVariables false
set_option linter.unusedSimpArgs false
open Go Go.RowKit Px
open Lx (Tok)
def bx (l:List UInt8):ByteArray:=⟨l.toArray⟩
theorem kbz (l:List UInt8):(bx l).data.toList=l:=by simp [bx]
theorem kqn (s:ByteArray):bx s.data.toList=s:=by
 obtain ⟨⟨l⟩⟩:=s
 rfl
theorem kau (l:List UInt8):(bx l).size=l.length:=by simp [bx,ByteArray.size]
theorem kcv (a b:List UInt8):bx a++bx b=bx (a++b):=by
 apply ByteArray.ext
 rw [ByteArray.data_append]
 simp [bx]
theorem kcZ (a b:List UInt8):beqL a b=(a==b):=by
 rw [Bool.eq_iff_iff,kjs,beq_iff_eq]
def Tok.row (t:Tok):List D:=[.int .i64 t.kind,.str (bx t.text),.int .i64 t.n,.int .i64 t.line,.int .i64 t.col]
def toks (l:List Tok):List (List D):=l.map Tok.row
theorem kgJ (l:List Tok):(toks l).length=l.length:=List.length_map ..
theorem kz0 (l:List Tok) (i:Nat) (h:i < l.length):(toks l).getD i []=Tok.row (tk l i):=by
 unfold toks tk
 rw [List.getD_eq_getElem?_getD,List.getD_eq_getElem?_getD,List.getElem?_map,List.getElem?_eq_getElem h]
 rfl
def strs (l:List (List UInt8)):List (List D):=l.map fun s=>[.str (bx s)]
def ints (l:List Int):List (List D):=l.map fun n=>[.int .i64 n]
mutual
def T.row:T->List D
 | .mk k l=>[.int .i64 k,.list 2 (T.rows l)]
def T.rows:List T->List (List D)
 | []=>[]
 | t :: r=>T.row t :: T.rows r
end
mutual
def E.row:E->List D
 | .mk k n s ns os ks a b=>[.int .i64 k,.int .i64 n,.str (bx s),.list 1 (strs ns),.list 1 (ints os),.list 8 (E.rows ks),.int .i64 a,.int .i64 b]
def E.rows:List E->List (List D)
 | []=>[]
 | t :: r=>E.row t :: E.rows r
end
def Fld.row (f:Fld):List D:=[.str (bx f.name),.int .i64 f.typ.k,.list 2 (T.rows f.typ.l),.int .i64 f.line,.int .i64 f.col]
def Fld.rows (l:List Fld):List (List D):=l.map Fld.row
def Fnc.row (f:Fnc):List D:=[.str (bx f.name),.list 5 (Fld.rows f.params),.int .i64 f.res.k,.list 2 (T.rows f.res.l)]++E.row f.body++[.int .i64 f.line,.int .i64 f.col]
def Fnc.rows (l:List Fnc):List (List D):=l.map Fnc.row
theorem T.row_eq (t:T):T.row t=[.int .i64 t.k,.list 2 (T.rows t.l)]:=by cases t;rw [T.row];rfl
theorem E.row_eq (e:E):E.row e=[.int .i64 e.k,.int .i64 e.n,.str (bx e.name),.list 1 (strs e.names),.list 1 (ints e.odds),.list 8 (E.rows e.kids),.int .i64 e.line,.int .i64 e.col]:=by cases e;rw [E.row];rfl
theorem T.rows_map:∀ l:List T,T.rows l=l.map T.row
 | []=>by rw [T.rows];rfl
 | t :: r=>by rw [T.rows,T.rows_map r];rfl
theorem E.rows_map:∀ l:List E,E.rows l=l.map E.row
 | []=>by rw [E.rows];rfl
 | t :: r=>by rw [E.rows,E.rows_map r];rfl
theorem kb7 {α:Type} [Inhabited α] (f:α->List D) (l:List α) (i:Nat) (h:i < l.length):(l.map f).getD i []=f (l.getD i default):=by
 rw [List.getD_eq_getElem?_getD,List.getD_eq_getElem?_getD,List.getElem?_map,List.getElem?_eq_getElem h]
 rfl
abbrev iX (n:Int):X:=X.d (D.int IntKind.i64 n)
abbrev sX (s:List UInt8):X:=X.d (D.str (bx s))
abbrev bX (b:Bool):X:=X.d (D.bool b)
def eV (e:E):V:=V.agg [X.d (D.int IntKind.i64 e.k),X.d (D.int IntKind.i64 e.n),X.d (D.str (bx e.name)),X.d (D.list 1 (strs e.names)),X.d (D.list 1 (ints e.odds)),X.d (D.list 8 (E.rows e.kids)),X.d (D.int IntKind.i64 e.line),X.d (D.int IntKind.i64 e.col)]
def tV (t:T):V:=V.agg [X.d (D.int IntKind.i64 t.k),X.d (D.list 2 (T.rows t.l))]
def fV (f:Fld):V:=V.agg [X.d (D.str (bx f.name)),X.d (D.int IntKind.i64 f.typ.k),X.d (D.list 2 (T.rows f.typ.l)),X.d (D.int IntKind.i64 f.line),X.d (D.int IntKind.i64 f.col)]
def kV (t:Tok):V:=V.agg [X.d (D.int IntKind.i64 t.kind),X.d (D.str (bx t.text)),X.d (D.int IntKind.i64 t.n),X.d (D.int IntKind.i64 t.line),X.d (D.int IntKind.i64 t.col)]
theorem wrap_in (n:Int) (h:-9223372036854775808<=n) (h':n<=9223372036854775807):IntKind.wrap .i64 n=n:=by
 have e1:IntKind.bits .i64=64:=rfl
 have e2:IntKind.signed .i64=true:=rfl
 have e3:(2 ^ 64:Int)=18446744073709551616:=rfl
 have e4:(2 ^ 63:Int)=9223372036854775808:=rfl
 unfold IntKind.wrap
 simp only [e1,e2,e3,e4,Bool.true_and,decide_eq_true_eq,ge_iff_le]
 omega
theorem kap (i:Nat) (h:i < 9223372036854775807):IntKind.wrap .i64 (Int.ofNat i+1)=Int.ofNat (i+1):=wrap_in _ (by have:=Int.natCast_nonneg i;simp only [Int.ofNat_eq_natCast];omega) (by simp only [Int.ofNat_eq_natCast];omega)
theorem kaz (i n:Nat) (h:i < n):decide (Int.ofNat i < Int.ofNat n)=true:=decide_eq_true (Int.ofNat_lt.2 h)
theorem kba (i n:Nat) (h:n<=i):decide (Int.ofNat i < Int.ofNat n)=false:=decide_eq_false (fun k=>by have:=Int.ofNat_lt.1 k;omega)
theorem kak (i n:Nat) (h:i < n):(decide ((0:Int)<=Int.ofNat i)&&decide (Int.ofNat i < Int.ofNat n))=true:=by
 simp only [Int.ofNat_eq_natCast,Bool.and_eq_true,decide_eq_true_eq]
 omega
theorem tn (i:Nat):Int.toNat (Int.ofNat i)=i:=rfl
end Go.Proofs.YtaphnbaiamnfpaaGreatDoor.Ps
namespace Go.Proofs.YtaphnbaiamnfpaaGreatDoor.Ps
set_option linter.unusedVariables false
set_option linter.unusedSimpArgs false
set_option maxRecDepth 4000
open Go Go.RowKit Px Lx
def tokV:Lx.R->V
 | .ok k w n=>V.tup [V.agg [iX k,sX w,iX n,iX 0,iX 0],V.one (iX 0)]
 | .bad e w=>V.tup [V.agg [iX 0,sX w,iX 0,iX 0,iX 0],V.one (iX e)]
abbrev RV (v:V):Out:=⟨true,v,D.junk,[],0⟩
theorem kfh (p:UInt8->Bool):∀ (l:List UInt8) (x:UInt8),x∈l.takeWhile p->p x=true
 | [],x,h=>by simp at h
 | c :: t,x,h=>by
  by_cases hc:p c=true
  · rw [List.takeWhile_cons_of_pos hc] at h
    rcases List.mem_cons.1 h with h | h
    · rw [h];exact hc
    · exact kfh p t x h
  · rw [List.takeWhile_cons_of_neg hc] at h;simp at h
theorem kcm (l:List UInt8) (i:Nat) (hi:i<=l.length):(i=l.length∧l.drop i=[])∨(i < l.length∧∃ c t,l.drop i=c :: t∧l.drop (i+1)=t):=by
 by_cases h:i < l.length
 · refine .inr ⟨h,l[i],l.drop (i+1),List.drop_eq_getElem_cons h,rfl⟩
 · exact .inl ⟨by omega,List.drop_eq_nil_of_le (by omega)⟩
theorem khi (l:List UInt8) (a b:Nat):(bx l).extract a b=bx ((l.take b).drop a):=by
 apply ByteArray.ext
 rw [ByteArray.data_extract]
 simp [bx,List.drop_take]
theorem khj (l:List UInt8) (i:Nat) (c:UInt8) (t:List UInt8) (h:l.drop i=c :: t):ByteArray.get! (bx l) (Int.toNat (Int.ofNat i))=c:=by
 have hi:i < l.length:=by
  by_cases hi:i < l.length
  · exact hi
  · rw [List.drop_eq_nil_of_le (by omega)] at h;cases h
 have h2:l[i]=c:=by
  rw [List.drop_eq_getElem_cons hi] at h
  injection h
 show (bx l).data[i]! = c
 have:(bx l).data=l.toArray:=rfl
 rw [this,getElem!_pos _ _ (by simpa using hi)]
 simpa using h2
theorem kqo (c:UInt8) (t:List UInt8):ByteArray.get! (bx (c :: t)) 0=c:=khj (c :: t) 0 c t rfl
theorem kqp (c:UInt8):Cal 120 [V.one (X.d (D.int IntKind.u8 (Int.ofNat c.toNat)))] [] (RV (V.one (bX (sm c)))):=by
 refine kBA _ (Ev.of fun m k n=>?_)
 rw [kBu]
 unfold sm
 have e1:decide (Int.ofNat c.toNat ≥ 97)=decide (97<=c.toNat):=decide_eq_decide.2 (by simp only [Int.ofNat_eq_natCast];omega)
 have e2:decide (Int.ofNat c.toNat<=122)=decide (c.toNat<=122):=decide_eq_decide.2 (by simp only [Int.ofNat_eq_natCast];omega)
 rw [e1,e2]
 cases decide (97<=c.toNat)<;>rfl
theorem kjb (c:UInt8):Cal 121 [V.one (X.d (D.int IntKind.u8 (Int.ofNat c.toNat)))] [] (RV (V.one (bX (dg c)))):=by
 refine kBB _ (Ev.of fun m k n=>?_)
 rw [kBv]
 unfold dg
 have e1:decide (Int.ofNat c.toNat ≥ 48)=decide (48<=c.toNat):=decide_eq_decide.2 (by simp only [Int.ofNat_eq_natCast];omega)
 have e2:decide (Int.ofNat c.toNat<=57)=decide (c.toNat<=57):=decide_eq_decide.2 (by simp only [Int.ofNat_eq_natCast];omega)
 rw [e1,e2]
 cases decide (48<=c.toNat)<;>rfl
theorem kdj {f:FuncId} {args:List V} {rows:List (List Lf × List X)} {k:Nat} (h:kk4 f=none):Ak (k+1) false f args rows=libV (Ak k false) f args rows:=by
 have e:Ak (k+1) false f args rows=(match kk4 f with
  | some fn=>cond (Nat.beq args.length fn.nparams) (runF (Ak k) shp rc false (shp f) fn k args rows) none
  | none=>cond false none (libV (Ak k false) f args rows)):=rfl
 rw [e,h]
 rfl
theorem klA (s t:ByteArray) (h:s.size < 4294967281):Cal 122 [V.one (X.d (D.str s)),V.one (X.d (D.str t))] [] (RV (V.one (bX (Lib.contains s.data.toList t.data.toList)))):=by
 refine ⟨1,fun m k n h1 h2 h3=>?_⟩
 obtain ⟨k,rfl⟩:∃ k',k=k'+1:=⟨k - 1,by omega⟩
 refine (kdj (by kernel_rfl)).trans ?_
 show cond (Nat.blt s.size 4294967281) _ none=_
 rw [show Nat.blt s.size 4294967281=true from Nat.ble_eq_true_of_le h]
 rfl
theorem kt3 (s:ByteArray) (c:Int):Cal 136 [V.one (X.d (D.str s)),V.one (X.d (D.int IntKind.u8 c))] [] (RV (V.one (iX (Lib.indexByte s.data.toList c.toNat.toUInt8)))):=by
 refine ⟨1,fun m k n h1 h2 h3=>?_⟩
 obtain ⟨k,rfl⟩:∃ k',k=k'+1:=⟨k - 1,by omega⟩
 refine (kdj (by kernel_rfl)).trans ?_
 rfl
section
variable {x2 x3 x4 x5 x6 x7:Int} {s3 s4:ByteArray}
theorem kC6 (l:List UInt8) (hl:l.length<=1000000):∀ (d i:Nat),i<=l.length->l.length - i=d->∀ r,Ev (fun m k n=>kk8 (Ak k) n (bx l) (Int.ofNat (i+((l.drop i).takeWhile nm).length)) x2 s3 x4 x5 x6) r ->
 Ev (fun m k n=>kn9 m (Ak k) n (bx l) (Int.ofNat i) x2 s3 x4 x5 x6) r:=by
 intro d
 induction d with
 | zero =>
  intro i hi hd r h
  rw [List.drop_eq_nil_of_le (by omega)] at h
  refine Ev.step ?_
  simp only [kla]
  exact Ev.no (kba i _ (by rw [kau];omega)) h
 | succ d ih =>
  intro i hi hd r h
  rcases kcm l i hi with ⟨e,_⟩ | ⟨hlt,c,t,hc,ht⟩
  · omega
  · have hb:=khj l i c t hc
    rw [hc] at h
    refine Ev.step ?_
    simp only [kla,hb]
    refine Ev.yes (kaz i _ (by rw [kau];exact hlt)) (Ev.yes (kak i _ (by rw [kau];exact hlt)) ?_)
    refine v_oB (kqp c) ?_
    by_cases hn:nm c=true
    · rw [List.takeWhile_cons_of_pos hn] at h
      have h2:=ih (i+1) (by omega) (by omega) r (by rw [ht];simpa [Nat.add_assoc,Nat.add_comm 1] using h)
      have go:Ev (fun m k n=>kk7 (Ak k) m n (bx l) (Int.ofNat i) x2 s3 x4 x5 x6) r:=by
       simp only [kst,kap i (show i < 9223372036854775807 by omega)]
       exact h2
      cases h1:sm c with
      | true=>exact Ev.yes rfl go
      | false =>
       refine Ev.no rfl (Ev.yes (kak i _ (by rw [kau];exact hlt)) (v_oB (kjb c) ?_))
       cases h3:dg c with
       | true=>exact Ev.yes rfl go
       | false =>
        refine Ev.no rfl (Ev.yes (kak i _ (by rw [kau];exact hlt)) (Ev.yes ?_ go))
        rw [beq_iff_eq]
        simp [nm,h1,h3] at hn
        rw [hn];rfl
    · rw [List.takeWhile_cons_of_neg hn] at h
      have h1:sm c=false:=by
       cases e:sm c
       · rfl
       · exact absurd (kzw e) hn
      have h3:dg c=false:=by
       cases e:dg c
       · rfl
       · exact absurd (by simp [nm,e]) hn
      rw [h1]
      refine Ev.no rfl (Ev.yes (kak i _ (by rw [kau];exact hlt)) (v_oB (kjb c) ?_))
      rw [h3]
      refine Ev.no rfl (Ev.yes (kak i _ (by rw [kau];exact hlt)) (Ev.no ?_ h))
      rw [beq_eq_false_iff_ne]
      intro e
      refine hn ?_
      have:c.toNat=95:=by
       have e':((c.toNat:Nat):Int)=95:=e
       omega
      simp [nm,this]
theorem kiq (l:List UInt8) (n:Nat) (hn:n<=l.length):(decide ((0:Int)<=Int.ofNat n)&&decide (Int.ofNat n<=Int.ofNat (bx l).size)&&true&&decide ((0:Int)<=Int.ofNat n))=true:=by
 rw [kau]
 simp only [Int.ofNat_eq_natCast,Bool.and_eq_true,decide_eq_true_eq,and_true]
 omega
theorem kC7 (l:List UInt8) (n:Nat) (hl:l.length<=1000000) (hn:n<=l.length) (hw:∀ c∈l.take n,nm c=true) (hne:l.take n ≠ []) :
 Ev (fun _ k m=>kk8 (Ak k) m (bx l) (Int.ofNat n) x2 s3 x4 x5 x6) (RV (tokV (if 24 < n then .bad 2 (l.take n) else if isWord (l.take n) then .ok 2 (l.take n) 0 else .ok 1 (l.take n) 0))):=by
 have he:(bx l).extract 0 (Int.toNat (Int.ofNat n))=bx (l.take n):=by rw [khi];rfl
 simp only [ksu,he]
 by_cases h:24 < n
 · rw [if_pos h]
   exact Ev.yes (decide_eq_true (by show (24:Int) < Int.ofNat n;simp only [Int.ofNat_eq_natCast];omega)) (Ev.yes (kiq l n hn) (Ev.ret _))
 · rw [if_neg h]
   refine Ev.no (decide_eq_false (by show ¬ (24:Int) < Int.ofNat n;simp only [Int.ofNat_eq_natCast];omega)) ?_
   simp only [ksy,he]
   refine Ev.yes (kiq l n hn) (Ev.yes (Nat.ble_eq_true_of_le (by rw [kau,List.length_take];omega)) (Ev.yes (Nat.ble_eq_true_of_le ?_) ?_))
   · show (bx [32]++bx (l.take n)).size+1<=_
     rw [kcv,kau,List.length_append,List.length_take,List.length_singleton];omega
   have hc:=klA (bx kgF) (bx [32]++bx (l.take n)++bx [32]) (by rw [kau];decide)
   have e1:Lib.contains (bx kgF).data.toList (bx [32]++bx (l.take n)++bx [32]).data.toList=isWord (l.take n):=by
    rw [kcv,kcv,kbz,kbz,<- kg7 _ hw hne]
    simp
   rw [e1] at hc
   refine v_oB hc ?_
   cases hi:isWord (l.take n) with
   | true=>exact Ev.yes rfl (Ev.yes (kiq l n hn) (Ev.ret _))
   | false =>
    refine Ev.no rfl ?_
    simp only [ksB,he]
    exact Ev.yes (kiq l n hn) (Ev.ret _)
def cap (v:Nat):Int:=if (v:Int)<=2147483647 then (v:Int) else 2147483648
theorem kz1 (n:Int) (h:0<=n) (h':n < 256):IntKind.wrap .u8 n=n:=by
 have e1:IntKind.bits .u8=8:=rfl
 have e2:IntKind.signed .u8=false:=rfl
 have e3:(2 ^ 8:Int)=256:=rfl
 unfold IntKind.wrap
 simp only [e1,e2,e3,Bool.false_and]
 rw [Int.emod_eq_of_lt h h']
 rfl
theorem kt4 (v:Nat) (c:UInt8) (h:48<=c.toNat) (h':c.toNat<=57) :
 (if 2147483648 < IntKind.wrap .i64 (IntKind.wrap .i64 (cap v*10)+IntKind.wrap .i64 (IntKind.wrap .u8 (Int.ofNat c.toNat - 48))) then (2147483648:Int) else IntKind.wrap .i64 (IntKind.wrap .i64 (cap v*10)+IntKind.wrap .i64 (IntKind.wrap .u8 (Int.ofNat c.toNat - 48))))=cap (v*10+(c.toNat - 48)):=by
 have hc:0<=cap v∧cap v<=2147483648:=by unfold cap;split<;>omega
 simp only [Int.ofNat_eq_natCast]
 rw [kz1 _ (by omega) (by omega),wrap_in ((c.toNat:Int) - 48) (by omega) (by omega),wrap_in (cap v*10) (by omega) (by omega),wrap_in _ (by omega) (by omega)]
 unfold cap
 split<;>split<;>split<;>omega
theorem kt5 (l:List UInt8) (hl:l.length<=1000000):∀ (d i:Nat),i<=l.length->l.length - i=d->(∀ c∈l.take i,dg c=true) ->
 ∀ r,Ev (fun m k n=>kk9 (Ak k) n (bx l) (Int.ofNat (i+((l.drop i).takeWhile dg).length)) (cap (val (l.take (i+((l.drop i).takeWhile dg).length)))) x3 s4 x5 x6 x7) r ->
 Ev (fun m k n=>koa m (Ak k) n (bx l) (Int.ofNat i) (cap (val (l.take i))) x3 s4 x5 x6 x7) r:=by
 intro d
 induction d with
 | zero =>
  intro i hi hd hw r h
  rw [List.drop_eq_nil_of_le (by omega)] at h
  refine Ev.step ?_
  simp only [klb]
  exact Ev.no (kba i _ (by rw [kau];omega)) h
 | succ d ih =>
  intro i hi hd hw r h
  rcases kcm l i hi with ⟨e,_⟩ | ⟨hlt,c,t,hc,ht⟩
  · omega
  · have hb:=khj l i c t hc
    have hlc:l[i]=c:=by
     rw [List.drop_eq_getElem_cons hlt] at hc
     injection hc
    have hsn:l.take (i+1)=l.take i++[c]:=by rw [List.take_succ_eq_append_getElem hlt,hlc]
    rw [hc] at h
    refine Ev.step ?_
    simp only [klb,hb]
    refine Ev.yes (kaz i _ (by rw [kau];exact hlt)) (Ev.yes (kak i _ (by rw [kau];exact hlt)) ?_)
    refine v_oB (kjb c) ?_
    by_cases hn:dg c=true
    · rw [List.takeWhile_cons_of_pos hn] at h
      have h48:48<=c.toNat∧c.toNat<=57:=by simpa [dg] using hn
      have h2:=ih (i+1) (by omega) (by omega) (by rw [hsn];intro x hx;rcases List.mem_append.1 hx with hx | hx;exact hw x hx;rw [List.mem_singleton.1 hx];exact hn) r
       (by rw [ht];simpa [Nat.add_assoc,Nat.add_comm 1] using h)
      rw [hsn,val_snoc] at h2
      refine Ev.yes hn ?_
      simp only [ksv,hb,kt4 _ c h48.1 h48.2]
      refine Ev.yes (kak i _ (by rw [kau];exact hlt)) ?_
      simp only [ksz,kap i (show i < 9223372036854775807 by omega)]
      exact h2
    · rw [List.takeWhile_cons_of_neg hn] at h
      exact Ev.no (by simpa using hn) h
theorem kt6 (l:List UInt8) (n:Nat) (hn:n<=l.length) :
 Ev (fun _ k m=>kk9 (Ak k) m (bx l) (Int.ofNat n) (cap (val (l.take n))) x3 s4 x5 x6 x7) (RV (tokV (if 2147483647 < val (l.take n) then .bad 2 (l.take n) else .ok 3 (l.take n) (val (l.take n))))):=by
 have he:(bx l).extract 0 (Int.toNat (Int.ofNat n))=bx (l.take n):=by rw [khi];rfl
 simp only [ksw,he]
 generalize val (l.take n)=v
 by_cases h:2147483647 < v
 · have hc:cap v=2147483648:=by unfold cap;rw [if_neg (by omega)]
   rw [if_pos h,hc]
   exact Ev.yes rfl (Ev.yes (kiq l n hn) (Ev.ret _))
 · have hc:cap v=(v:Int):=by unfold cap;rw [if_pos (by omega)]
   rw [if_neg h,hc]
   refine Ev.no (decide_eq_false (by show ¬ (2147483647:Int) < (v:Int);omega)) ?_
   simp only [ksA,he]
   exact Ev.yes (kiq l n hn) (Ev.ret _)
theorem kt7 (l p:List UInt8):Cal 135 [V.one (X.d (D.str (bx l))),V.one (X.d (D.str (bx p)))] [] (RV (V.one (bX (l.take p.length==p)))):=by
 refine kBD _ _ ?_
 simp only [kBx]
 have h:Cal 146 [V.one (X.d (D.str (bx l))),V.one (X.d (D.str (bx p)))] [] (RV (V.one (bX (l.take p.length==p)))):=by
  refine kBE _ _ ?_
  simp only [kBy,kau]
  by_cases hle:p.length<=l.length
  · refine Ev.yes (decide_eq_true (by show Int.ofNat p.length<=Int.ofNat l.length;exact Int.ofNat_le.2 hle)) (Ev.yes ?_ (Ev.of fun m k n=>?_))
    · simp only [Int.ofNat_eq_natCast,Bool.and_eq_true,decide_eq_true_eq,and_true]
      omega
    · rw [kcZ,khi,kbz,kbz]
      rfl
  · refine Ev.no (decide_eq_false (by show ¬ Int.ofNat p.length<=Int.ofNat l.length;simp only [Int.ofNat_eq_natCast];omega)) (Ev.of fun m k n=>?_)
    have:(l.take p.length==p)=false:=by
     rw [beq_eq_false_iff_ne]
     intro e
     have:=congrArg List.length e
     rw [List.length_take] at this
     omega
    rw [this]
 exact v_oB h (Ev.ret _)
theorem kC8 (l:List UInt8) (hne:l ≠ []):∀ (d i:Nat),i<=4->4 - i=d ->
 Ev (fun m k n=>kod m (Ak k) n (bx l) (strs twos) 4 (Int.ofNat i)) (RV (V.one (sX (if has (twos.drop i) (l.take 2) then l.take 2 else if hasB ones (l.headD 0) then l.take 1 else [])))):=by
 intro d
 induction d with
 | zero =>
  intro i hi hd
  obtain rfl:i=4:=by omega
  obtain ⟨c,t,rfl⟩:∃ c t,l=c :: t:=by cases l with | nil=>exact absurd rfl hne | cons c t=>exact ⟨c,t,rfl⟩
  refine Ev.step ?_
  simp only [klc,ksD,kqo]
  have hp:decide ((0:Int) < Int.ofNat (bx (c :: t)).size)=true:=decide_eq_true (by rw [kau];simp only [List.length_cons,Int.ofNat_eq_natCast];omega)
  have hp1:decide ((1:Int)<=Int.ofNat (bx (c :: t)).size)=true:=decide_eq_true (by rw [kau];simp only [List.length_cons,Int.ofNat_eq_natCast];omega)
  refine Ev.no rfl (Ev.yes (by rw [hp];rfl) ?_)
  have hi:=kt3 (bx ones) (Int.ofNat c.toNat)
  rw [show (Int.ofNat c.toNat).toNat.toUInt8=c by simp,kbz] at hi
  refine v_oI hi ?_
  have hz:=ke7 ones c
  have drop4:¬ (has (twos.drop 4) ((c :: t).take 2)=true):=fun h=>by cases h
  rw [if_neg drop4]
  by_cases h:hasB ones c=true
  · rw [if_pos (show hasB ones ((c :: t).headD 0)=true from h)]
    refine Ev.yes (decide_eq_true (hz.2 h)) (Ev.yes (by rw [hp1];rfl) (Ev.of fun m k n=>?_))
    rw [khi]
    rfl
  · rw [if_neg (show ¬ hasB ones ((c :: t).headD 0)=true from h)]
    refine Ev.no (decide_eq_false fun e=>h (hz.1 e)) ?_
    exact Ev.of fun m k n=>by rw [ksF];rfl
 | succ d ih =>
  intro i hi hd
  have hlt:i < twos.length:=by show i < 4;omega
  have h2:=ih (i+1) (by omega) (by omega)
  have hdr:twos.drop i=twos[i] :: twos.drop (i+1):=List.drop_eq_getElem_cons hlt
  have hlen:twos[i].length=2:=by
   have:∀ x∈twos,x.length=2:=by decide
   exact this _ (List.getElem_mem hlt)
  have hat:(strs twos).getD i []=[D.str (bx twos[i])]:=by
   unfold strs
   rw [kb7 _ _ _ hlt,List.getD_eq_getElem?_getD,List.getElem?_eq_getElem hlt]
   rfl
  refine Ev.step ?_
  simp only [klc]
  refine Ev.yes (kaz i 4 (by omega)) ?_
  simp only [ksC,tn,hat]
  refine Ev.yes (kak i _ (by rw [show (strs twos).length=4 from rfl];omega)) ?_
  refine v_oB (kt7 l twos[i]) ?_
  rw [hdr,hlen]
  by_cases h:l.take 2=twos[i]'hlt
  · refine Ev.yes (by rw [h];simp) (Ev.of fun m k n=>?_)
    rw [has_yes _ h,if_pos rfl,h]
    rfl
  · refine Ev.no (by simpa using h) ?_
    rw [has_no _ h]
    simp only [ksE,kap i (show i < 9223372036854775807 by omega)]
    exact h2
theorem kC9 (l:List UInt8) (hne:l ≠ []):Cal 123 [V.one (X.d (D.str (bx l)))] [] (RV (V.one (sX (sgn l)))):=by
 refine kBC _ ?_
 simp only [kBw]
 exact Ev.diag (kC8 l hne 4 0 (by omega) (by omega))
theorem kDa (l:List UInt8) (hne:l ≠ []) (hl:l.length<=1000000):Cal 105 [V.one (X.d (D.str (bx l)))] [] (RV (tokV (Lx.tok l))):=by
 obtain ⟨c,t,rfl⟩:∃ c t,l=c :: t:=by cases l with | nil=>exact absurd rfl hne | cons c t=>exact ⟨c,t,rfl⟩
 have hp:(true&&decide ((0:Int) < Int.ofNat (bx (c :: t)).size))=true:=by rw [Bool.true_and];exact decide_eq_true (by rw [kau];simp only [List.length_cons,Int.ofNat_eq_natCast];omega)
 have hp1:(true&&decide ((1:Int)<=Int.ofNat (bx (c :: t)).size)&&true&&true)=true:=by rw [Bool.true_and,Bool.and_true,Bool.and_true];exact decide_eq_true (by rw [kau];simp only [List.length_cons,Int.ofNat_eq_natCast];omega)
 refine kBz _ ?_
 simp only [kBt,kqo]
 refine Ev.yes hp (v_oB (kqp c) ?_)
 unfold Lx.tok
 show Ev _ (RV (tokV (if sm c then _ else if dg c then _ else _)))
 by_cases h1:sm c=true
 · rw [if_pos h1]
   have hn:=kcd nm (c :: t)
   have hle:((c :: t).takeWhile nm).length<=(c :: t).length:=(List.takeWhile_sublist nm).length_le
   refine Ev.yes h1 (Ev.diag (kC6 (c :: t) hl _ 0 (by omega) rfl _ ?_))
   have hq:=fun (x2:Int) (s3:ByteArray) (x4 x5 x6:Int)=>kC7 (x2:=x2) (s3:=s3) (x4:=x4) (x5:=x5) (x6:=x6) (c :: t) ((c :: t).takeWhile nm).length hl hle (by rw [hn];exact fun x hx=>kfh nm _ x hx) (by rw [hn,List.takeWhile_cons_of_pos (kzw h1)];simp)
   rw [hn] at hq
   rw [List.drop_zero,Nat.zero_add]
   exact hq _ _ _ _ _
 · rw [if_neg h1]
   refine Ev.no (by simpa using h1) (Ev.yes hp (v_oB (kjb c) ?_))
   by_cases h2:dg c=true
   · rw [if_pos h2]
     have hn:=kcd dg (c :: t)
     have hle:((c :: t).takeWhile dg).length<=(c :: t).length:=(List.takeWhile_sublist dg).length_le
     refine Ev.yes h2 (Ev.diag (kt5 (c :: t) hl _ 0 (by omega) rfl (by simp) _ ?_))
     have hq:=fun (x3:Int) (s4:ByteArray) (x5 x6 x7:Int)=>kt6 (x3:=x3) (s4:=s4) (x5:=x5) (x6:=x6) (x7:=x7) (c :: t) ((c :: t).takeWhile dg).length hle
     rw [List.drop_zero,Nat.zero_add]
     rw [hn] at hq ⊢
     exact hq _ _ _ _ _
   · rw [if_neg h2]
     refine Ev.no (by simpa using h2) ?_
     simp only [kss]
     refine v_oS (kC9 (c :: t) (by simp)) ?_
     by_cases h3:sgn (c :: t)=[]
     · rw [if_pos h3,h3]
       refine Ev.no rfl ?_
       simp only [ksx]
       refine Ev.yes hp1 (Ev.of fun m k n=>?_)
       rw [khi]
       rfl
     · rw [if_neg h3]
       refine Ev.yes ?_ (Ev.ret _)
       rw [kbz,kcZ]
       simpa using h3
end
end Go.Proofs.YtaphnbaiamnfpaaGreatDoor.Ps
namespace Go.Proofs.YtaphnbaiamnfpaaGreatDoor.Ps
set_option linter.unusedVariables false
set_option linter.unusedSimpArgs false
open Go Go.RowKit Px Lx
def fltX (f:Flt):List X:=[iX f.e,sX f.text,iX f.line,iX f.col]
def fine:List X:=[iX 0,sX [],iX 0,iX 0]
def kcw (acc:List Tok):Except Flt (List Tok)->V
 | .ok l=>V.tup [V.one (X.d (D.list 5 (toks (acc++l)))),V.agg fine]
 | .error f=>V.tup [V.one (X.d (D.list 5 [])),V.agg (fltX f)]
theorem km5 (a:List Tok) (t:Tok):toks (a++[t])=toks a++[[D.int IntKind.i64 t.kind,D.str (bx t.text),D.int IntKind.i64 t.n,D.int IntKind.i64 t.line,D.int IntKind.i64 t.col]]:=by
 unfold toks;rw [List.map_append];rfl
theorem tok_bad {l:List UInt8} {e:Int} {w:List UInt8} (h:Lx.tok l=.bad e w):e ≠ 0:=by
 unfold Lx.tok at h
 split at h
 · split at h
   · cases h;decide
   · split at h<;>cases h
 · split at h
   · split at h
     · cases h;decide
     · cases h
   · split at h
     · cases h;decide
     · cases h
def push (acc:List Tok) (t:Tok) (r:Except Flt (List Tok)):V:=kcw (acc++[t]) r
theorem khk (acc:List Tok) (t:Tok) (r:Except Flt (List Tok)):kcw acc (match r with | .error f=>.error f | .ok l=>.ok (t :: l))=kcw (acc++[t]) r:=by
 cases r with
 | error f=>rfl
 | ok l=>unfold kcw;simp only [List.append_assoc,List.singleton_append]
theorem kb9 {c:UInt8} {n:Nat} (h:¬ c.toNat=n):(Int.ofNat c.toNat==Int.ofNat n)=false:=by
 rw [beq_eq_false_iff_ne]
 intro e
 exact h (Int.ofNat.inj e)
theorem kbL {c:UInt8} {n:Nat} (h:c.toNat=n):(Int.ofNat c.toNat==Int.ofNat n)=true:=by rw [h];simp
theorem km6 (a b:Nat) (h:a+b<=2000000):IntKind.wrap .i64 (Int.ofNat a+Int.ofNat b)=Int.ofNat (a+b):=by
 rw [wrap_in _ (by simp only [Int.ofNat_eq_natCast];omega) (by simp only [Int.ofNat_eq_natCast];omega)]
 simp
theorem kd9 (i b:Nat) (h:b<=i) (h2:i<=1000000):IntKind.wrap .i64 (IntKind.wrap .i64 (Int.ofNat i - Int.ofNat b)+1)=Int.ofNat i - Int.ofNat b+1:=by
 rw [wrap_in (Int.ofNat i - Int.ofNat b) (by simp only [Int.ofNat_eq_natCast];omega) (by simp only [Int.ofNat_eq_natCast];omega),wrap_in _ (by simp only [Int.ofNat_eq_natCast];omega) (by simp only [Int.ofNat_eq_natCast];omega)]
theorem kko (l:List UInt8) (hl:l.length<=1000000) (acc:List Tok) (x1 x2 x4:Int) (s5:ByteArray) (x6 x7:Int) (Γ:Bool->SemL) (m0 n0:Nat) (o:Option Out):∀ (d i:Nat),i<=l.length->l.length - i=d ->
 kb1 m0 Γ n0 (bx l) (toks acc) x1 x2 (Int.ofNat (i+((l.drop i).takeWhile nnl).length)) x4 s5 x6 x7=o->∀ m,d < m->kgT m Γ m0 n0 (bx l) (toks acc) x1 x2 (Int.ofNat i) x4 s5 x6 x7=o:=by
 intro d
 induction d with
 | zero =>
  intro i hi hd h m hm
  rw [List.drop_eq_nil_of_le (by omega)] at h
  obtain ⟨m,rfl⟩:∃ m',m=m'+1:=⟨m - 1,by omega⟩
  rw [khZ,kba i _ (by rw [kau];omega),cond_false,kh0]
  exact h
 | succ d ih =>
  intro i hi hd h m hm
  obtain ⟨m,rfl⟩:∃ m',m=m'+1:=⟨m - 1,by omega⟩
  rcases kcm l i hi with ⟨e,_⟩ | ⟨hlt,c,t,hc,ht⟩
  · omega
  · have hb:=khj l i c t hc
    rw [hc] at h
    rw [khZ,kaz i _ (by rw [kau];exact hlt),cond_true,show decide ((0:Int)<=Int.ofNat i)=true from decide_eq_true (Int.natCast_nonneg i),Bool.true_and,cond_true,hb]
    by_cases hn:c.toNat=10
    · rw [List.takeWhile_cons_of_neg (by simp [nnl,hn])] at h
      rw [bne,show (Int.ofNat c.toNat==10)=true from kbL (n:=10) hn,Bool.not_true,cond_false,kh0]
      exact h
    · rw [List.takeWhile_cons_of_pos (by simp [nnl,hn])] at h
      rw [bne,show (Int.ofNat c.toNat==10)=false from kb9 (n:=10) hn,Bool.not_false,cond_true,kml,kap i (by omega)]
      exact ih (i+1) (by omega) (by omega) (by rw [ht];simpa [Nat.add_assoc,Nat.add_comm 1] using h) m (by omega)
theorem kqq (l:List UInt8) (hl:l.length<=1000000) (x4:Int) (s5:ByteArray) (x6 x7:Int):∀ (d i:Nat),l.length - i < d->i<=l.length->∀ (acc:List Tok) (line:Nat) (b:Nat),b<=i->line<=i+1->acc.length<=i ->
 Ev (fun m k n=>kb1 m (Ak k) n (bx l) (toks acc) (Int.ofNat line) (Int.ofNat b) (Int.ofNat i) x4 s5 x6 x7) (RV (kcw acc (scan (l.drop i) (Int.ofNat line) (Int.ofNat i - Int.ofNat b+1)))):=by
 intro d
 induction d with
 | zero=>intro i h;omega
 | succ d ih =>
  intro i hd hi acc line b hb hline ha
  refine Ev.step ?_
  simp only [kmh]
  rcases kcm l i hi with ⟨e,hnil⟩ | ⟨hlt,c,t,hc,ht⟩
  · subst e
    rw [hnil,scan]
    refine Ev.no (kba _ _ (by rw [kau];omega)) ?_
    simp only [kmj,kau,kd9 l.length b hb hl]
    refine Ev.yes (by rw [kgJ];exact Nat.ble_eq_true_of_le (by show (acc.length+1)*49<=_;omega)) (Ev.of fun m k n=>?_)
    show some _=some (RV (V.tup [V.one (X.d (D.list 5 (toks (acc++[_])))),_]))
    rw [km5]
    rfl
  · have hget:=khj l i c t hc
    refine Ev.yes (kaz i _ (by rw [kau];exact hlt)) ?_
    simp only [kmi,hget,kap i (show i < 9223372036854775807 by omega),kap line (show line < 9223372036854775807 by omega)]
    refine Ev.yes (kak i _ (by rw [kau];exact hlt)) ?_
    rw [hc,scan]
    have next:Ev (fun m k n=>kb1 m (Ak k) n (bx l) (toks acc) (Int.ofNat line) (Int.ofNat b) (Int.ofNat (i+1)) x4 s5 x6 x7) (RV (kcw acc (scan t (Int.ofNat line) (Int.ofNat i - Int.ofNat b+1+1)))):=by
     have:=ih (i+1) (by omega) (by omega) acc line b (by omega) (by omega) (by omega)
     rw [ht] at this
     have e1:Int.ofNat (i+1) - Int.ofNat b+1=Int.ofNat i - Int.ofNat b+1+1:=by simp only [Int.ofNat_eq_natCast];omega
     rw [e1] at this
     exact this
    by_cases h10:c.toNat=10
    · rw [if_pos h10]
      refine Ev.yes (kbL (n:=10) h10) ?_
      have:=ih (i+1) (by omega) (by omega) acc (line+1) (i+1) (by omega) (by omega) (by omega)
      rw [ht,Int.sub_self] at this
      exact this
    rw [if_neg h10]
    refine Ev.no (kb9 (n:=10) h10) ?_
    by_cases h32:c.toNat=32
    · rw [if_pos (by simp [ws,h32])]
      exact Ev.yes (kbL (n:=32) h32) next
    refine Ev.no (kb9 (n:=32) h32) ?_
    by_cases h9:c.toNat=9
    · rw [if_pos (by simp [ws,h9])]
      exact Ev.yes (kbL (n:=9) h9) next
    refine Ev.no (kb9 (n:=9) h9) ?_
    by_cases h13:c.toNat=13
    · rw [if_pos (by simp [ws,h13])]
      exact Ev.yes (kbL (n:=13) h13) next
    refine Ev.no (kb9 (n:=13) h13) ?_
    rw [if_neg (by simp [ws,h32,h9,h13])]
    by_cases h35:c.toNat=35
    · rw [if_pos h35]
      refine Ev.yes (kbL (n:=35) h35) ?_
      have hle:(t.takeWhile nnl).length<=t.length:=(List.takeWhile_sublist nnl).length_le
      have htl:t.length=l.length - i - 1:=by
       have:=congrArg List.length hc
       rw [List.length_drop,List.length_cons] at this
       omega
      have hdw:l.drop (i+1+(t.takeWhile nnl).length)=t.dropWhile nnl:=by
       rw [<- List.drop_drop,ht]
       have:=List.takeWhile_append_dropWhile (p:=nnl) (l:=t)
       conv=>lhs;rw [<- this]
       rw [List.drop_append_of_le_length (by rw [this];exact Nat.le_refl _) |>.trans (by rw [this])]<;>simp
      have:=ih (i+1+(t.takeWhile nnl).length) (by omega) (by omega) acc line b (by omega) (by omega) (by omega)
      rw [hdw] at this
      have e1:Int.ofNat (i+1+(t.takeWhile nnl).length) - Int.ofNat b+1=Int.ofNat i - Int.ofNat b+1+1+((t.takeWhile nnl).length:Int):=by simp only [Int.ofNat_eq_natCast];omega
      rw [e1] at this
      obtain ⟨K,hK⟩:=this
      refine ⟨K+l.length+1,fun m k n h1 h2 h3=>?_⟩
      refine kko l hl acc _ _ _ _ _ _ (Ak k) m n _ (l.length - i) i hi rfl ?_ m (by omega)
      rw [hc,List.takeWhile_cons_of_pos (by simp [nnl,h35]),List.length_cons]
      rw [show i+((t.takeWhile nnl).length+1)=i+1+(t.takeWhile nnl).length by omega]
      exact hK m k n (by omega) (by omega) (by omega)
    rw [if_neg h35]
    refine Ev.no (kb9 (n:=35) h35) ?_
    have hext:(bx l).extract (Int.toNat (Int.ofNat i)) (Int.toNat (Int.ofNat l.length))=bx (c :: t):=by
     rw [khi,<- hc]
     show bx ((l.take l.length).drop i)=_
     rw [List.take_length]
    simp only [kmk,kau,hext]
    refine Ev.yes (by simp only [Int.ofNat_eq_natCast,Bool.and_eq_true,decide_eq_true_eq];omega) ?_
    have hone:=kDa (c :: t) (by simp) (by rw [<- hc,List.length_drop];omega)
    cases htok:Lx.tok (c :: t) with
    | bad e w =>
     rw [htok] at hone
     refine kck hone (Ev.yes (by simpa using tok_bad htok) (Ev.of fun m k n=>?_))
     rw [kd9 i b hb (by omega)]
     rfl
    | ok κ w n =>
     rw [htok] at hone
     refine kck hone (Ev.no rfl ?_)
     have hw:=tok_take htok
     have hwl:1<=w.length:=by
      cases w with
      | nil=>exact absurd rfl hw.2
      | cons=>simp
     have hwle:w.length<=(c :: t).length:=by
      have:=congrArg List.length hw.1
      rw [List.length_take] at this
      omega
     have htl:(c :: t).length=l.length - i:=by rw [<- hc,List.length_drop]
     have hdr:l.drop (i+w.length)=t.drop (w.length - 1):=by
      rw [<- List.drop_drop,hc]
      cases w with
      | nil=>exact absurd rfl hw.2
      | cons a w'=>rfl
     simp only [kmm,kau,km6 i w.length (by omega),kd9 i b hb (by omega:i<=1000000)]
     show Ev _ (RV (kcw acc (match scan (t.drop (w.length - 1)) (Int.ofNat line) (Int.ofNat i - Int.ofNat b+1+(w.length:Int)) with | .error f=>.error f | .ok l=>.ok (⟨κ,w,n,Int.ofNat line,Int.ofNat i - Int.ofNat b+1⟩ :: l))))
     rw [khk]
     have e1:Int.ofNat (i+w.length) - Int.ofNat b+1=Int.ofNat i - Int.ofNat b+1+(w.length:Int):=by simp only [Int.ofNat_eq_natCast];omega
     have:=ih (i+w.length) (by omega) (by omega) (acc++[⟨κ,w,n,Int.ofNat line,Int.ofNat i - Int.ofNat b+1⟩]) line b (by omega) (by omega) (by rw [List.length_append,List.length_singleton];omega)
     rw [hdr,e1,km5] at this
     exact Ev.yes (by rw [kgJ];exact Nat.ble_eq_true_of_le (by show (acc.length+1)*49<=_;omega)) this
theorem kqr (l:List UInt8) (hl:l.length<=1000000) (x1 x2 x4:Int) (s5:ByteArray) (x6 x7:Int) (Γ:Bool->SemL) (m0 n0:Nat) (o:Option Out):∀ (d i:Nat),i<=l.length->l.length - i=d ->
 kim m0 Γ n0 (bx l) x1 x2 (Int.ofNat (i+((l.drop i).takeWhile nnl).length)) x4 s5 x6 x7=o->∀ m,d < m->ku1 m Γ m0 n0 (bx l) x1 x2 (Int.ofNat i) x4 s5 x6 x7=o:=by
 intro d
 induction d with
 | zero =>
  intro i hi hd h m hm
  rw [List.drop_eq_nil_of_le (by omega)] at h
  obtain ⟨m,rfl⟩:∃ m',m=m'+1:=⟨m - 1,by omega⟩
  rw [koh,kba i _ (by rw [kau];omega),cond_false,koi]
  exact h
 | succ d ih =>
  intro i hi hd h m hm
  obtain ⟨m,rfl⟩:∃ m',m=m'+1:=⟨m - 1,by omega⟩
  rcases kcm l i hi with ⟨e,_⟩ | ⟨hlt,c,t,hc,ht⟩
  · omega
  · have hb:=khj l i c t hc
    rw [hc] at h
    rw [koh,kaz i _ (by rw [kau];exact hlt),cond_true,show decide ((0:Int)<=Int.ofNat i)=true from decide_eq_true (Int.natCast_nonneg i),Bool.true_and,cond_true,hb]
    by_cases hn:c.toNat=10
    · rw [List.takeWhile_cons_of_neg (by simp [nnl,hn])] at h
      rw [bne,show (Int.ofNat c.toNat==10)=true from kbL (n:=10) hn,Bool.not_true,cond_false,koi]
      exact h
    · rw [List.takeWhile_cons_of_pos (by simp [nnl,hn])] at h
      rw [bne,show (Int.ofNat c.toNat==10)=false from kb9 (n:=10) hn,Bool.not_false,cond_true,ku7,kap i (by omega)]
      exact ih (i+1) (by omega) (by omega) (by rw [ht];simpa [Nat.add_assoc,Nat.add_comm 1] using h) m (by omega)
theorem kDb (l:List UInt8) (hl:l.length<=1000000) (x4:Int) (s5:ByteArray) (x6 x7:Int):∀ (d i:Nat),l.length - i < d->i<=l.length->∀ (line:Nat) (b:Nat),b<=i->line<=i+1 ->
 Ev (fun m k n=>kim m (Ak k) n (bx l) (Int.ofNat line) (Int.ofNat b) (Int.ofNat i) x4 s5 x6 x7) (RV (kcw [] (scan (l.drop i) (Int.ofNat line) (Int.ofNat i - Int.ofNat b+1)))):=by
 intro d
 induction d with
 | zero=>intro i h;omega
 | succ d ih =>
  intro i hd hi line b hb hline
  refine Ev.step ?_
  simp only [ku3]
  rcases kcm l i hi with ⟨e,hnil⟩ | ⟨hlt,c,t,hc,ht⟩
  · subst e
    rw [hnil,scan]
    refine Ev.no (kba _ _ (by rw [kau];omega)) ?_
    simp only [ku5,kau,kd9 l.length b hb hl]
    exact Ev.of fun m k n=>rfl
  · have hget:=khj l i c t hc
    refine Ev.yes (kaz i _ (by rw [kau];exact hlt)) ?_
    simp only [ku4,hget,kap i (show i < 9223372036854775807 by omega),kap line (show line < 9223372036854775807 by omega)]
    refine Ev.yes (kak i _ (by rw [kau];exact hlt)) ?_
    rw [hc,scan]
    have next:Ev (fun m k n=>kim m (Ak k) n (bx l) (Int.ofNat line) (Int.ofNat b) (Int.ofNat (i+1)) x4 s5 x6 x7) (RV (kcw [] (scan t (Int.ofNat line) (Int.ofNat i - Int.ofNat b+1+1)))):=by
     have:=ih (i+1) (by omega) (by omega) line b (by omega) (by omega)
     rw [ht] at this
     have e1:Int.ofNat (i+1) - Int.ofNat b+1=Int.ofNat i - Int.ofNat b+1+1:=by simp only [Int.ofNat_eq_natCast];omega
     rw [e1] at this
     exact this
    by_cases h10:c.toNat=10
    · rw [if_pos h10]
      refine Ev.yes (kbL (n:=10) h10) ?_
      have:=ih (i+1) (by omega) (by omega) (line+1) (i+1) (by omega) (by omega)
      rw [ht,Int.sub_self] at this
      exact this
    rw [if_neg h10]
    refine Ev.no (kb9 (n:=10) h10) ?_
    by_cases h32:c.toNat=32
    · rw [if_pos (by simp [ws,h32])]
      exact Ev.yes (kbL (n:=32) h32) next
    refine Ev.no (kb9 (n:=32) h32) ?_
    by_cases h9:c.toNat=9
    · rw [if_pos (by simp [ws,h9])]
      exact Ev.yes (kbL (n:=9) h9) next
    refine Ev.no (kb9 (n:=9) h9) ?_
    by_cases h13:c.toNat=13
    · rw [if_pos (by simp [ws,h13])]
      exact Ev.yes (kbL (n:=13) h13) next
    refine Ev.no (kb9 (n:=13) h13) ?_
    rw [if_neg (by simp [ws,h32,h9,h13])]
    by_cases h35:c.toNat=35
    · rw [if_pos h35]
      refine Ev.yes (kbL (n:=35) h35) ?_
      have hle:(t.takeWhile nnl).length<=t.length:=(List.takeWhile_sublist nnl).length_le
      have htl:t.length=l.length - i - 1:=by
       have:=congrArg List.length hc
       rw [List.length_drop,List.length_cons] at this
       omega
      have hdw:l.drop (i+1+(t.takeWhile nnl).length)=t.dropWhile nnl:=by
       rw [<- List.drop_drop,ht]
       have:=List.takeWhile_append_dropWhile (p:=nnl) (l:=t)
       conv=>lhs;rw [<- this]
       rw [List.drop_append_of_le_length (by rw [this];exact Nat.le_refl _) |>.trans (by rw [this])]<;>simp
      have:=ih (i+1+(t.takeWhile nnl).length) (by omega) (by omega) line b (by omega) (by omega)
      rw [hdw] at this
      have e1:Int.ofNat (i+1+(t.takeWhile nnl).length) - Int.ofNat b+1=Int.ofNat i - Int.ofNat b+1+1+((t.takeWhile nnl).length:Int):=by simp only [Int.ofNat_eq_natCast];omega
      rw [e1] at this
      obtain ⟨K,hK⟩:=this
      refine ⟨K+l.length+1,fun m k n h1 h2 h3=>?_⟩
      refine kqr l hl _ _ _ _ _ _ (Ak k) m n _ (l.length - i) i hi rfl ?_ m (by omega)
      rw [hc,List.takeWhile_cons_of_pos (by simp [nnl,h35]),List.length_cons]
      rw [show i+((t.takeWhile nnl).length+1)=i+1+(t.takeWhile nnl).length by omega]
      exact hK m k n (by omega) (by omega) (by omega)
    rw [if_neg h35]
    refine Ev.no (kb9 (n:=35) h35) ?_
    have hext:(bx l).extract (Int.toNat (Int.ofNat i)) (Int.toNat (Int.ofNat l.length))=bx (c :: t):=by
     rw [khi,<- hc]
     show bx ((l.take l.length).drop i)=_
     rw [List.take_length]
    simp only [ku6,kau,hext]
    refine Ev.yes (by simp only [Int.ofNat_eq_natCast,Bool.and_eq_true,decide_eq_true_eq];omega) ?_
    have hone:=kDa (c :: t) (by simp) (by rw [<- hc,List.length_drop];omega)
    cases htok:Lx.tok (c :: t) with
    | bad e w =>
     rw [htok] at hone
     refine kck hone (Ev.yes (by simpa using tok_bad htok) (Ev.of fun m k n=>?_))
     rw [kd9 i b hb (by omega)]
     rfl
    | ok κ w n =>
     rw [htok] at hone
     refine kck hone (Ev.no rfl ?_)
     have hw:=tok_take htok
     have hwl:1<=w.length:=by
      cases w with
      | nil=>exact absurd rfl hw.2
      | cons=>simp
     have hwle:w.length<=(c :: t).length:=by
      have:=congrArg List.length hw.1
      rw [List.length_take] at this
      omega
     have htl:(c :: t).length=l.length - i:=by rw [<- hc,List.length_drop]
     have hdr:l.drop (i+w.length)=t.drop (w.length - 1):=by
      rw [<- List.drop_drop,hc]
      cases w with
      | nil=>exact absurd rfl hw.2
      | cons a w'=>rfl
     simp only [ku8,kau,km6 i w.length (by omega),kd9 i b hb (by omega:i<=1000000)]
     show Ev _ (RV (kcw [] (match scan (t.drop (w.length - 1)) (Int.ofNat line) (Int.ofNat i - Int.ofNat b+1+(w.length:Int)) with | .error f=>.error f | .ok l=>.ok (⟨κ,w,n,Int.ofNat line,Int.ofNat i - Int.ofNat b+1⟩ :: l))))
     rw [khk]
     have e1:Int.ofNat (i+w.length) - Int.ofNat b+1=Int.ofNat i - Int.ofNat b+1+(w.length:Int):=by simp only [Int.ofNat_eq_natCast];omega
     have:=kqq l hl x4 s5 x6 x7 (l.length+1) (i+w.length) (by omega) (by omega) [⟨κ,w,n,Int.ofNat line,Int.ofNat i - Int.ofNat b+1⟩] line b (by omega) (by omega) (by simp only [List.length_singleton];omega)
     rw [hdr,e1] at this
     exact this
theorem kjc (l:List UInt8):Cal 72 [V.one (X.d (D.str (bx l)))] [] (RV (if 20000 < l.length then V.tup [V.one (X.d (D.list 5 [])),V.agg [iX 2,sX [],iX 0,iX 0]] else kcw [] (scan l 1 1))):=by
 refine kFu _ ?_
 simp only [kFt,kau]
 by_cases h:20000 < l.length
 · rw [if_pos h]
   exact Ev.yes (decide_eq_true (by show (20000:Int) < Int.ofNat l.length;simp only [Int.ofNat_eq_natCast];omega)) (Ev.ret _)
 · rw [if_neg h]
   refine Ev.no (decide_eq_false (by show ¬ (20000:Int) < Int.ofNat l.length;simp only [Int.ofNat_eq_natCast];omega)) ?_
   simp only [ku2]
   have:=fun (x4:Int) (s5:ByteArray) (x6 x7:Int)=>kDb l (by omega) x4 s5 x6 x7 (l.length+1) 0 (by omega) (by omega) 1 0 (by omega) (by omega)
   exact Ev.diag (this _ _ _ _)
end Go.Proofs.YtaphnbaiamnfpaaGreatDoor.Ps
namespace Go.Proofs.YtaphnbaiamnfpaaGreatDoor.Ps
set_option linter.unusedVariables false
set_option linter.unusedSimpArgs false
open Go Go.RowKit Px
open Lx (Tok scan sm dg nm)
theorem bl (s w:List UInt8):beqL (Array.toList (ByteArray.data (bx s))) (Array.toList (ByteArray.data (ByteArray.mk w.toArray)))=decide (s=w):=by
 rw [kbz,kcZ]
 cases h:decide (s=w) with
 | true=>rw [of_decide_eq_true h];exact beq_self_eq_true _
 | false=>exact beq_eq_false_iff_ne.2 (of_decide_eq_false h)
theorem bl0 (s:List UInt8):beqL (Array.toList (ByteArray.data (bx s))) (Array.toList (ByteArray.data (ByteArray.mk #[])))=decide (s=[]):=bl s []
theorem bl2 (a b:List UInt8):beqL (Array.toList (ByteArray.data (bx a))) (Array.toList (ByteArray.data (bx b)))=decide (a=b):=bl a b
theorem Ev.ifb {c:Bool} {F G:Nat->Nat->Nat->Option Out} {o:Out} (h1:c=true->Ev F o) (h2:c=false->Ev G o):Ev (fun m k n=>bif c then F m k n else G m k n) o:=by
 cases c with
 | true=>exact (h1 rfl).yes rfl
 | false=>exact (h2 rfl).no rfl
theorem Ev.diag' {F:Nat->Nat->Nat->Option Out} {o:Out} (h:Ev F o):Ev (fun _ k n=>F n k n) o:=h.diag
theorem Ev.of_eq {F G:Nat->Nat->Nat->Option Out} {o:Out} (e:∀ m k n,F m k n=G m k n) (h:Ev G o):Ev F o:=Ev.eq h e
theorem Ev.out {F:Nat->Nat->Nat->Option Out} {o o':Out} (h:Ev F o) (e:o=o'):Ev F o':=e▸h
abbrev YB (b:Bool):Out:=RV (V.one (bX b))
theorem Ev.rb {b b':Bool} (e:b=b'):Ev (fun _ _ _=>some (Out.mk true (V.one (X.d (D.bool b))) D.junk [] 0)) (YB b'):=e▸Ev.ret _
theorem Ev.ri {b b':Int} (e:b=b'):Ev (fun _ _ _=>some (Out.mk true (V.one (X.d (D.int .i64 b))) D.junk [] 0)) (RV (V.one (iX b'))):=e▸Ev.ret _
abbrev nsV (s:List UInt8):V:=V.one (X.d (D.str (bx s)))
theorem kcx (a b:Nat):(Int.ofNat a==Int.ofNat b)=decide (a=b):=by
 rw [Bool.eq_iff_iff,beq_iff_eq,decide_eq_true_eq]
 exact ⟨fun h=>Int.ofNat.inj h,fun h=>by rw [h]⟩
theorem kt8 {ts:List Tok} (h:ts.length=2):toks ts=[Tok.row (tk ts 0),Tok.row (tk ts 1)]:=by
 match ts,h with
 | [a,b],_=>rfl
theorem km7 (s:List UInt8):Cal 35 [nsV s] [] (YB (kaA s)):=by
 refine kFR _ ?_
 simp only [kFL]
 have ht:=kjc s
 by_cases hl:20000 < s.length
 · rw [if_pos hl] at ht
   refine kaG ht (Ev.no rfl (Ev.rb ?_))
   unfold kaA
   rw [decide_eq_false (by omega:¬ s.length<=24)]
   simp
 · rw [if_neg hl] at ht
   cases hs:scan s 1 1 with
   | error f =>
    rw [hs] at ht
    refine kaG ht (Ev.no ?_ (Ev.rb ?_))
    · exact beq_eq_false_iff_ne.2 (Lx.scan_err s.length s 1 1 f (Nat.le_refl _) hs)
    · cases hn:kaA s with
      | false=>rfl
      | true =>
       obtain ⟨a,b,c,d,h⟩:=kfc hn
       rw [hs] at h;cases h
   | ok ts =>
    rw [hs] at ht
    refine kaG ht (Ev.yes rfl ?_)
    have e0:toks ([]++ts)=toks ts:=rfl
    by_cases h2:ts.length=2
    · have e1:toks ([]++ts)=[Tok.row (tk ts 0),Tok.row (tk ts 1)]:=kt8 h2
      simp only [e1]
      refine Ev.yes rfl (Ev.yes rfl (Ev.yes rfl ?_))
      show Ev (fun m k n=>bif (tk ts 0).kind==1 then _ else _) _
      refine Ev.ifb (fun hk=>Ev.yes rfl (Ev.yes rfl ?_)) (fun hk=>Ev.rb ?_)
      · refine Ev.rb ?_
        show beqL (bx (tk ts 0).text).data.toList (bx s).data.toList=_
        rw [bl2]
        cases hn:kaA s with
        | true =>
         obtain ⟨a,b,c,d,h⟩:=kfc hn
         rw [hs] at h
         cases h
         exact decide_eq_true rfl
        | false =>
         refine decide_eq_false fun e=>?_
         rw [kkb hs (by omega) (by simpa using hk) e] at hn
         cases hn
      · cases hn:kaA s with
        | false=>rfl
        | true =>
         obtain ⟨a,b,c,d,h⟩:=kfc hn
         rw [hs] at h
         cases h
         cases hk
    · refine Ev.no ?_ (Ev.rb ?_)
      · rw [e0,kgJ]
        exact (kcx _ 2).trans (decide_eq_false h2)
      · cases hn:kaA s with
        | false=>rfl
        | true =>
         obtain ⟨a,b,c,d,h⟩:=kfc hn
         rw [hs] at h
         cases h
         exact absurd rfl h2
theorem kfi {α:Type} (p:α->Bool) (l:List α) (i:Nat) (h:i < l.length):(l.drop i).all p=(p l[i]&&(l.drop (i+1)).all p):=by
 rw [List.drop_eq_getElem_cons h,List.all_cons]
theorem kjd (ns:List (List UInt8)) (i:Nat) (h:i < ns.length):dat ((strs ns).getD i []) 0=D.str (bx ns[i]):=by
 unfold strs
 rw [List.getD_eq_getElem?_getD,List.getElem?_map,List.getElem?_eq_getElem h]
 rfl
theorem kbA (ns:List (List UInt8)):(strs ns).length=ns.length:=List.length_map ..
theorem kz2 (ns:List (List UInt8)) (hl:ns.length<=9223372036854775807):Cal 112 [V.one (X.d (D.list 1 (strs ns)))] [] (YB (ns.all kaA)):=by
 refine kBM _ ?_
 simp only [kBL,kbA]
 have key:∀ (d i:Nat),i<=ns.length->ns.length - i=d->Ev (fun m k n=>koj m (Ak k) n (strs ns) (Int.ofNat ns.length) (Int.ofNat i)) (YB ((ns.drop i).all kaA)):=by
  intro d
  induction d with
  | zero =>
   intro i hi hd
   rw [List.drop_eq_nil_of_le (by omega)]
   refine Ev.step ?_
   simp only [kld]
   exact Ev.no (kba i _ (by omega)) (Ev.of fun m k n=>by rw [ksJ];rfl)
  | succ d ih =>
   intro i hi hd
   have hlt:i < ns.length:=by omega
   rw [kfi _ _ _ hlt]
   refine Ev.step ?_
   simp only [kld]
   refine Ev.yes (kaz i _ hlt) ?_
   have hat:=kjd ns i hlt
   unfold dat at hat
   simp only [ksI,tn,hat]
   refine Ev.yes (kak i _ (by rw [kbA];exact hlt)) ?_
   refine v_oB (km7 ns[i]) ?_
   cases hn:kaA ns[i] with
   | false=>exact Ev.yes rfl (Ev.rb rfl)
   | true =>
    refine Ev.no rfl ?_
    simp only [ksK,kap i (show i < 9223372036854775807 by omega)]
    exact ih (i+1) (by omega) (by omega)
 exact Ev.diag (key _ 0 (Nat.zero_le _) rfl)
theorem khl (s:List UInt8):Cal 94 [nsV s] [] (RV (V.one (iX (Int.ofNat (lvl s))))):=by
 refine kFT _ (Ev.of fun m k n=>?_)
 rw [kFN]
 simp only [kvr,kvx,kvz,kvC,kvE]
 simp only [bl s wOr,bl s wAnd,bl s kia,bl s wLt,bl s wLe,bl s wCc,bl s wPl,bl s wMi,bl s wTi,bl s wSl,bl s wPc,bl s wNot,bl s wNeg]
 unfold lvl
 by_cases a1:s=wOr
 · rw [decide_eq_true a1,if_pos a1];rfl
 by_cases a2:s=wAnd
 · rw [decide_eq_false a1,decide_eq_true a2,if_neg a1,if_pos a2];rfl
 by_cases a3:s=kia∨s=wLt∨s=wLe
 · rw [decide_eq_false a1,decide_eq_false a2,if_neg a1,if_neg a2,if_pos a3]
   rcases a3 with rfl | rfl | rfl<;>rfl
 by_cases a4:s=wCc
 · subst a4;rfl
 by_cases a5:s=wPl∨s=wMi
 · rcases a5 with rfl | rfl<;>rfl
 by_cases a6:s=wTi∨s=wSl∨s=wPc
 · rcases a6 with rfl | rfl | rfl<;>rfl
 by_cases a7:s=wNot∨s=wNeg
 · rcases a7 with rfl | rfl<;>rfl
 rw [if_neg a1,if_neg a2,if_neg a3,if_neg a4,if_neg a5,if_neg a6,if_neg a7]
 simp only [not_or] at a3 a5 a6 a7
 rw [decide_eq_false a1,decide_eq_false a2,decide_eq_false a3.1,decide_eq_false a3.2.1,decide_eq_false a3.2.2,decide_eq_false a4,decide_eq_false a5.1,decide_eq_false a5.2,decide_eq_false a6.1,decide_eq_false a6.2.1,decide_eq_false a6.2.2,decide_eq_false a7.1,decide_eq_false a7.2]
 rfl
end Go.Proofs.YtaphnbaiamnfpaaGreatDoor.Ps
namespace Go.Proofs.YtaphnbaiamnfpaaGreatDoor.Ps
set_option linter.unusedVariables false
set_option linter.unusedSimpArgs false
set_option maxRecDepth 4000
open Go Go.RowKit Px
open Lx (Tok scan sm dg nm has wordList has_yes has_no)
end Go.Proofs.YtaphnbaiamnfpaaGreatDoor.Ps
namespace Go.Proofs.YtaphnbaiamnfpaaGreatDoor.Ps
set_option linter.unusedVariables false
set_option linter.unusedSimpArgs false
set_option maxRecDepth 4000
open Go Go.RowKit Px
open Lx (Tok scan sm dg nm)
theorem kje (os:List Int) (i:Nat) (h:i < os.length):dat ((ints os).getD i []) 0=D.int .i64 os[i]:=by
 unfold ints
 rw [List.getD_eq_getElem?_getD,List.getElem?_map,List.getElem?_eq_getElem h]
 rfl
theorem kc7 (os:List Int):(ints os).length=os.length:=List.length_map ..
theorem E.rows_len (a:List E):(E.rows a).length=a.length:=by rw [E.rows_map,List.length_map]
theorem E.rows_at (ks:List E) (i:Nat) (h:i < ks.length):(E.rows ks).getD i []=E.row ks[i]:=by
 have:Inhabited E:=⟨.mk 0 0 [] [] [] [] 0 0⟩
 rw [E.rows_map,kb7 _ _ _ h,List.getD_eq_getElem?_getD,List.getElem?_eq_getElem h]
 rfl
theorem klB (a b:Int):(a==b)=decide (a=b):=by
 rw [Bool.eq_iff_iff,beq_iff_eq,decide_eq_true_eq]
theorem bl0' (s:List UInt8):beqL (bx s).data.toList []=s.isEmpty:=by
 rw [kbz,kcZ];cases s<;>rfl
theorem e_nil (s:List UInt8):decide (s=[])=s.isEmpty:=by cases s<;>rfl
structure ShortE (ns:List (List UInt8)) (os:List Int):Prop where
 hns:ns.length<=9223372036854775807
 hos:os.length<=9223372036854775807
end Go.Proofs.YtaphnbaiamnfpaaGreatDoor.Ps
namespace Go.Proofs.YtaphnbaiamnfpaaGreatDoor.Ps
set_option linter.unusedVariables false
set_option linter.unusedSimpArgs false
open Go Go.RowKit Px
open Lx (Tok)
theorem kcN (a:List (List UInt8)):(strs a).length=a.length:=List.length_map ..
theorem kfj (a:List Int):(ints a).length=a.length:=List.length_map ..
theorem T.rows_app (a:List T) (b:T):T.rows (a++[b])=T.rows a++[[D.int IntKind.i64 b.k,D.list 2 (T.rows b.l)]]:=by
 rw [T.rows_map,T.rows_map,List.map_append,List.map_singleton,T.row_eq,T.rows_map]
theorem T.rows_len (a:List T):(T.rows a).length=a.length:=by rw [T.rows_map,List.length_map]
theorem T.rows_one (a:T):T.rows [a]=[[D.int IntKind.i64 a.k,D.list 2 (T.rows a.l)]]:=T.rows_app [] a
theorem roomy (n c:Nat) (hn:n<=1000000) (hc:c<=1000):Nat.ble ((n+1)*c) 140737488355328=true:=by
 have h1:(n+1)*c<=1000001*1000:=Nat.mul_le_mul (by omega) hc
 exact Nat.ble_eq_true_of_le (by omega)
theorem T.rows_at (ks:List T) (i:Nat) (h:i < ks.length):(T.rows ks).getD i []=T.row ks[i]:=by
 have:Inhabited T:=⟨.mk 0 []⟩
 rw [T.rows_map,kb7 _ _ _ h,List.getD_eq_getElem?_getD,List.getElem?_eq_getElem h]
 rfl
def pX (p:Pg):List X:=[X.d (D.list 5 (Fld.rows p.inputs)),X.d (D.list 14 (Fnc.rows p.funs)),X.d (D.int IntKind.i64 p.query.k),X.d (D.int IntKind.i64 p.query.n),X.d (D.str (bx p.query.name)),X.d (D.list 1 (strs p.query.names)),X.d (D.list 1 (ints p.query.odds)),X.d (D.list 8 (E.rows p.query.kids)),X.d (D.int IntKind.i64 p.query.line),X.d (D.int IntKind.i64 p.query.col)]
def pV (p:Pg):V:=V.agg (pX p)
theorem Fld.rows_app (a:List Fld) (b:Fld):Fld.rows (a++[b])=Fld.rows a++[[D.str (bx b.name),D.int IntKind.i64 b.typ.k,D.list 2 (T.rows b.typ.l),D.int IntKind.i64 b.line,D.int IntKind.i64 b.col]]:=by
 unfold Fld.rows;rw [List.map_append];rfl
theorem Fld.rows_len (a:List Fld):(Fld.rows a).length=a.length:=List.length_map ..
theorem Fld.rows_one (b:Fld):Fld.rows [b]=[[D.str (bx b.name),D.int IntKind.i64 b.typ.k,D.list 2 (T.rows b.typ.l),D.int IntKind.i64 b.line,D.int IntKind.i64 b.col]]:=rfl
theorem Fnc.row_eq (f:Fnc):Fnc.row f=[D.str (bx f.name),D.list 5 (Fld.rows f.params),D.int IntKind.i64 f.res.k,D.list 2 (T.rows f.res.l),D.int IntKind.i64 f.body.k,D.int IntKind.i64 f.body.n,D.str (bx f.body.name),D.list 1 (strs f.body.names),D.list 1 (ints f.body.odds),D.list 8 (E.rows f.body.kids),D.int IntKind.i64 f.body.line,D.int IntKind.i64 f.body.col,D.int IntKind.i64 f.line,D.int IntKind.i64 f.col]:=by
 unfold Fnc.row;rw [E.row_eq];rfl
theorem Fnc.rows_app (a:List Fnc) (f:Fnc):Fnc.rows (a++[f])=Fnc.rows a++[[D.str (bx f.name),D.list 5 (Fld.rows f.params),D.int IntKind.i64 f.res.k,D.list 2 (T.rows f.res.l),D.int IntKind.i64 f.body.k,D.int IntKind.i64 f.body.n,D.str (bx f.body.name),D.list 1 (strs f.body.names),D.list 1 (ints f.body.odds),D.list 8 (E.rows f.body.kids),D.int IntKind.i64 f.body.line,D.int IntKind.i64 f.body.col,D.int IntKind.i64 f.line,D.int IntKind.i64 f.col]]:=by
 unfold Fnc.rows;rw [List.map_append,List.map_singleton,Fnc.row_eq]
theorem Fnc.rows_len (a:List Fnc):(Fnc.rows a).length=a.length:=List.length_map ..
theorem Fld.rows_at (ks:List Fld) (i:Nat) (h:i < ks.length):(Fld.rows ks).getD i []=Fld.row ks[i]:=by
 have:Inhabited Fld:=⟨⟨[],.mk 0 [],0,0⟩⟩
 unfold Fld.rows
 rw [kb7 _ _ _ h,List.getD_eq_getElem?_getD,List.getElem?_eq_getElem h]
 rfl
theorem Fnc.rows_at (ks:List Fnc) (i:Nat) (h:i < ks.length):(Fnc.rows ks).getD i []=Fnc.row ks[i]:=by
 have:Inhabited Fnc:=⟨⟨[],[],.mk 0 [],.mk 0 0 [] [] [] [] 0 0,0,0⟩⟩
 unfold Fnc.rows
 rw [kb7 _ _ _ h,List.getD_eq_getElem?_getD,List.getElem?_eq_getElem h]
 rfl
def fdV (f:Fld):V:=V.agg [X.d (D.str (bx f.name)),X.d (D.int IntKind.i64 f.typ.k),X.d (D.list 2 (T.rows f.typ.l)),X.d (D.int IntKind.i64 f.line),X.d (D.int IntKind.i64 f.col)]
theorem Fld.row_eq (f:Fld):Fld.row f=[D.str (bx f.name),D.int IntKind.i64 f.typ.k,D.list 2 (T.rows f.typ.l),D.int IntKind.i64 f.line,D.int IntKind.i64 f.col]:=rfl
def fncV (f:Fnc):V:=V.agg [X.d (D.str (bx f.name)),X.d (D.list 5 (Fld.rows f.params)),X.d (D.int IntKind.i64 f.res.k),X.d (D.list 2 (T.rows f.res.l)),X.d (D.int IntKind.i64 f.body.k),X.d (D.int IntKind.i64 f.body.n),X.d (D.str (bx f.body.name)),X.d (D.list 1 (strs f.body.names)),X.d (D.list 1 (ints f.body.odds)),X.d (D.list 8 (E.rows f.body.kids)),X.d (D.int IntKind.i64 f.body.line),X.d (D.int IntKind.i64 f.body.col),X.d (D.int IntKind.i64 f.line),X.d (D.int IntKind.i64 f.col)]
theorem E.rows_app (a:List E) (b:E):E.rows (a++[b])=E.rows a++[[D.int IntKind.i64 b.k,D.int IntKind.i64 b.n,D.str (bx b.name),D.list 1 (strs b.names),D.list 1 (ints b.odds),D.list 8 (E.rows b.kids),D.int IntKind.i64 b.line,D.int IntKind.i64 b.col]]:=by
 rw [E.rows_map,E.rows_map,List.map_append,List.map_singleton,E.row_eq,E.rows_map]
theorem E.rows_one (b:E):E.rows [b]=[[D.int IntKind.i64 b.k,D.int IntKind.i64 b.n,D.str (bx b.name),D.list 1 (strs b.names),D.list 1 (ints b.odds),D.list 8 (E.rows b.kids),D.int IntKind.i64 b.line,D.int IntKind.i64 b.col]]:=E.rows_app [] b
theorem E.rows_cons (b:E) (r:List E):E.rows (b :: r)=[D.int IntKind.i64 b.k,D.int IntKind.i64 b.n,D.str (bx b.name),D.list 1 (strs b.names),D.list 1 (ints b.odds),D.list 8 (E.rows b.kids),D.int IntKind.i64 b.line,D.int IntKind.i64 b.col] :: E.rows r:=by
 rw [E.rows_map,List.map_cons,E.row_eq,E.rows_map r]
theorem E.rows_nil:E.rows []=[]:=by rw [E.rows]
theorem km8 (a:List (List UInt8)) (b:List UInt8):strs (a++[b])=strs a++[[D.str (bx b)]]:=by unfold strs;rw [List.map_append];rfl
def eX (e:E):List X:=[X.d (D.int IntKind.i64 e.k),X.d (D.int IntKind.i64 e.n),X.d (D.str (bx e.name)),X.d (D.list 1 (strs e.names)),X.d (D.list 1 (ints e.odds)),X.d (D.list 8 (E.rows e.kids)),X.d (D.int IntKind.i64 e.line),X.d (D.int IntKind.i64 e.col)]
end Go.Proofs.YtaphnbaiamnfpaaGreatDoor.Ps
namespace Go.Proofs.YtaphnbaiamnfpaaGreatDoor.Ps
set_option linter.unusedVariables false
set_option linter.unusedSimpArgs false
open Go Go.RowKit Go.Proofs
def kbH (w:World) (b:Nat):Nat:=match w.heap[b]? with | some (.cells cs _ _)=>cs.size | _=>0
def g0 (w:World):G:=⟨w,kbH w,fun _=>none,fun _=>none,fun _=>False⟩
theorem kDc (w:World):Entry (g0 w) [] where
 blk:=fun i x h=>by cases h
 out:=fun i _=>rfl
 inj:=fun i j B h=>by cases h
 lt:=fun i B h=>by cases h
 fresh:=fun b h=>by
  show kbH w b=0
  have h':w.heap.size<=b:=h
  unfold kbH
  rw [Array.getElem?_eq_none h']
 live:=fun κ h=>by cases h
 own:=fun κ e s u h=>by cases h
 dist:=fun κ κ' e s u e' s' u' b h=>by cases h
 used:=fun κ e s u h=>by cases h
 us:=fun _ h=>h.elim
theorem kDd (w:World):Since w (g0 w):=⟨Below.refl _ _,fun b h=>by
 rcases h with ⟨i,h⟩ | ⟨κ,e,s,u,h,_⟩<;>cases h⟩
abbrev sV (s:ByteArray):V:=V.one (X.d (D.str s))
theorem kqs {w:World} (hs:Sane w) {f:FuncId} {args:List V} {vs:List Value} (hv:ka7 (g0 w) args vs) (h:Cal f args [] (RV (V.one (bX true)))) :
 Calls Tryz.prog f vs.toArray w fun e w'=>e=.returned (.bool true)∧Below w.heap.size w w':=by
 obtain ⟨k,hk⟩:=h
 refine (((Ak_ok hs k) f args [] _ (hk k k k (Nat.le_refl _) (Nat.le_refl _) (Nat.le_refl _))) (g0 w) vs (kDd w) (kDc w) hv).2.mono ?_
 rintro e w' ⟨g',rfl,ho⟩
 obtain ⟨v,rfl,hr⟩:=ho.ok rfl
 rw [hr.bool_eq]
 refine ⟨rfl,ho.step.os,ho.step.tape,ho.step.output,ho.step.size,fun b hb=>(ho.step.keep b hb (fun hm=>?_)).1⟩
 rcases hm with ⟨i,h⟩ | ⟨κ,e,s,u,h,_⟩<;>cases h
theorem keu {H:Type} {enc:TypeId × Value->H} {a:Assume} {C:Checked} {os:Os} {f:FuncId} {fn:Func} {s:ChangeSpec} {conds:List PathCond} {apart fresh handsOn again:Bool} {X:World->Array Value->Prop}
 (hX:∀ (w w':World) (args:Array Value),w.heap=w'.heap->X w args->X w' args)
 (own:ownKnob C.prog.godebug=none) (started:os.Started) (noInit:C.prog.inits.idxOf? f=none) (hfn:C.prog.funcs[f]? = some fn)
 (witness:∃ (w:World) (tape:Tape) (i:Input),w.os=os∧(w.forCall tape i).Shaped C.prog∧i.vars=[]∧Input.okWide C.prog (w.forCall tape i) .any w.heap.size f i ∧
  ((s.pre enc C.prog fn conds apart (w.forCall tape i).memory i.args∧X (w.forCall tape i).memory i.args)∧sizedMet enc C.prog fn (OpenSpec.ofChange s) apart (w.forCall tape i).memory i.args)∧a.holds C.prog (lone (Frame.enter C.prog f i.args .normal) [] (w.forCall tape i)))
 (contract:∀ (W:World) (base:Nat) (args:Array Value) (ds gs:List (DataW H)) (before:List MemPlace),
  (∀ (j:Nat) t v,fn.params[j]? = some t->args[j]? = some v->Value.okWide C.prog W .any base t v) ->
  DataW.Whole enc C.prog fn.params.toList s.vars apart W args.toList ds gs before ->
  conds.all (PathCond.test C.prog ⟨fn.params.toList,ds,s.plain.varTypes C.prog,gs⟩)=true ->
  (DataW.weightsEach C.prog (fn.params.toList++s.plain.varTypes C.prog) (ds++gs)).all (·<=reachBytes)=true->X W args->W.ShapedOpen C.prog ->
  a.holds C.prog (lone (Frame.enter C.prog f args .normal) [] W) ->
  Calls C.prog f args W fun e W'=>∃ v,e=.returned v∧s.post enc C.prog fn apart fresh handsOn again W args v W') :
 ReturnsInHanded a C os f .any (fun w args=>(s.pre enc C.prog fn conds apart w args∧X w args)∧sizedMet enc C.prog fn (OpenSpec.ofChange s) apart w args) (s.post enc C.prog fn apart fresh handsOn again):=by
 refine returnsInHanded_of_calls own started noInit witness ?_
 intro w tape i _ hsh _ hok hpre hholds
 obtain ⟨_,_,_,fn',hfn',_,_,_,_,hval⟩:=hok
 have e:fn'=fn:=Option.some.inj (hfn'.symm.trans hfn)
 subst e
 obtain ⟨⟨⟨ds,gs,before,hw,hc⟩,hx⟩,hz⟩:=hpre
 have hw':=DataW.Whole.of_heap (w':=w.forCall tape i) (by rfl) hw
 refine (contract (w.forCall tape i) w.heap.size i.args ds gs before hval hw' hc (hz.weights hw) (hX _ _ _ (by rfl) hx) hsh hholds).mono fun e W' ⟨v,he,hp⟩=>?_
 subst he
 exact ChangeSpec.post_blind hp
end Go.Proofs.YtaphnbaiamnfpaaGreatDoor.Ps
namespace Go.Proofs.YtaphnbaiamnfpaaGreatDoor.Ps
set_option linter.unusedVariables false
set_option linter.unusedSimpArgs false
set_option maxRecDepth 100000
open Go Go.RowKit Px
theorem kz3 {w:World} {b o:Nat} {v:Value} (h:w.cell? ⟨b,o,none⟩=some v):o < kbH w b:=by
 unfold World.cell? at h
 unfold kbH
 split at h
 · rename_i cs _ _ hq
   rw [hq]
   have:=(Array.getElem?_eq_some_iff.1 (show cs[o]? = some v from h)).1
   exact this
 · cases h
theorem kgp {α:Type} (Q:Nat->α->Prop):∀ n,(∀ i,i < n->∃ a,Q i a)->∃ xs:List α,xs.length=n∧∀ i a,xs[i]? = some a->Q i a
 | 0,_=>⟨[],rfl,fun i a h=>by simp at h⟩
 | n+1,h=>by
  obtain ⟨xs,hl,hx⟩:=kgp Q n (fun i hi=>h i (by omega))
  obtain ⟨a,ha⟩:=h n (by omega)
  refine ⟨xs++[a],by simp [hl],fun i b hb=>?_⟩
  by_cases hi:i < xs.length
  · rw [List.getElem?_append_left hi] at hb
    exact hx i b hb
  · rw [List.getElem?_append_right (by omega)] at hb
    obtain ⟨hlt,e⟩:=List.getElem?_eq_some_iff.1 hb
    have:i=n:=by simp at hlt;omega
    subst this
    have:b=a:=by simpa [hl] using e.symm
    rw [this];exact ha
def keC {α:Type} (w:World) (sz:Nat) (row:α->List D) (a:α) (cs:List Value):Prop :=
 cs.length=sz∧∀ j,j < sz->RepD w (kbH w) (dat (row a) j) (cs.getD j undef)
theorem kfk {H:Type} {P:Program} {e:TypeId}:∀ {l:List (DataW H)} {i:Nat} {d:DataW H},(DataW.weightsAll P e l).all (·<=reachBytes)=true->l[i]? = some d->(d.weights P e).all (·<=reachBytes)=true
 | [],i,d,_,h=>by simp at h
 | y :: r,0,d,hw,h=>by
  rw [DataW.weightsAll,List.all_append,Bool.and_eq_true] at hw
  obtain rfl:y=d:=by simpa using h
  exact hw.1
 | y :: r,i+1,d,hw,h=>by
  rw [DataW.weightsAll,List.all_append,Bool.and_eq_true] at hw
  exact kfk hw.2 (by simpa using h)
theorem kc0 {H:Type} {P:Program}:∀ {ts:List TypeId} {l:List (DataW H)} {i:Nat} {t:TypeId} {d:DataW H},(DataW.weightsEach P ts l).all (·<=reachBytes)=true->ts[i]? = some t->l[i]? = some d->(d.weights P t).all (·<=reachBytes)=true
 | [],l,i,t,d,_,h,_=>by simp at h
 | t' :: ts,[],i,t,d,_,_,h=>by simp at h
 | t' :: ts,y :: r,0,t,d,hw,h1,h=>by
  rw [DataW.weightsEach,List.all_append,Bool.and_eq_true] at hw
  obtain rfl:y=d:=by simpa using h
  obtain rfl:t'=t:=by simpa using h1
  exact hw.1
 | t' :: ts,y :: r,i+1,t,d,hw,h1,h=>by
  rw [DataW.weightsEach,List.all_append,Bool.and_eq_true] at hw
  exact kc0 hw.2 (by simpa using h1) (by simpa using h)
theorem kbB {H:Type} {P:Program} {t:TypeId} {fs:Array Field} {xs:List (DataW H × List MemPlace)} {ps:List MemPlace} {i:Nat} {f:Field} {z:DataW H × List MemPlace} (hu:P.underlying t=some (.struct fs))
 (hw:(DataW.weights P t (.agg (xs.map (·.1)))).all (·<=reachBytes)=true) (hf:fs[i]? = some f) (hz:xs[i]? = some z):(z.1.weights P f.type).all (·<=reachBytes)=true:=by
 unfold DataW.weights at hw
 rw [hu] at hw
 exact kc0 (i:=i) hw (by simp [hf]) (by rw [List.getElem?_map,hz];rfl)
section
variable {H:Type} {enc:TypeId × Value->H} {P:Program} {w:World} {base:Nat} {spare:Nat->Bool} {held:Bool}
theorem kt9 {w:World} {a:Addr} {v:Value} (h:w.cell? a=some v):a.spot=none:=by
 unfold World.cell? at h
 split at h
 · cases hs:a.spot with
   | none=>rfl
   | some k=>rw [hs] at h;simp at h
 · cases h
theorem kqt {a:Addr} (h:a.spot=none) (n:Nat):a.add n=⟨a.block,a.off+n,none⟩:=by
 obtain ⟨b,o,s⟩:=a
 cases h
 unfold Addr.add
 by_cases hz:n=0
 · rw [if_pos hz,hz];rfl
 · rw [if_neg hz]
theorem kqu {α:Type} {row:α->List D} {t e:TypeId} {sz fuel:Nat} {cs:List Value} {x:DataW H × List MemPlace} (hu:P.underlying t=some (.slice e)) (hc:P.cellsOf e=sz) (hsz:0 < sz)
 (he:∀ m,m < fuel->∀ cs y,DataW.trod enc P w base spare held m e cs=some y->(y.1.weights P e).all (·<=reachBytes)=true->∃ a:α,keC w sz row a cs) (h:DataW.trod enc P w base spare held fuel t cs=some x)
 (hw:(x.1.weights P t).all (·<=reachBytes)=true) (hbe:0 < P.bytesOf e) :
 ∃ (l:List α) (v:Value),cs=[v]∧RepD w (kbH w) (.list sz (l.map row)) v∧l.length<=140737488351232:=by
 rcases DataW.trod_slice hu h with ⟨rfl,_⟩ | ⟨a,len,cap,elems,rest,m,hm,rfl,hx,hb,hl,hmx,hlen,hel,_,_⟩
 · exact ⟨[],_,rfl,.nil sz none 0,by simp⟩
 · rw [hc] at hel
   rw [hx] at hw
   unfold DataW.weights at hw
   rw [hu] at hw
   simp only [List.all_cons,Bool.and_eq_true,decide_eq_true_eq,List.length_map,List.all_append] at hw
   obtain ⟨hw1,hw2,_⟩:=hw
   have hle:elems.length<=140737488351232:=by
    have h3:elems.length+rest.length<=(elems.length+rest.length)*P.bytesOf e:=Nat.le_mul_of_pos_right _ hbe
    have h4:reachBytes=140737488351232:=rfl
    omega
   have hq:∀ i,i < len->∃ p:α,∃ c:List Value,keC w sz row p c∧∀ j,j < sz->w.cell? ((a.add (i*sz)).add j)=c[j]?:=by
    intro i hi
    have h1:=hel i hi
    have h2:elems[i]? = some (elems[i]'(by omega)):=List.getElem?_eq_getElem (by omega)
    rw [h2] at h1
    obtain ⟨cs',hcs,ht⟩:=Option.bind_eq_some_iff.1 h1
    obtain ⟨p,hp⟩:=he m (by omega) cs' _ ht (kfk hw2 (by rw [List.getElem?_map,h2];rfl))
    obtain ⟨_,hcl,hat⟩:=World.cells?_some hcs
    exact ⟨p,cs',hp,hat⟩
   obtain ⟨xs,hxl,hxs⟩:=kgp _ len hq
   rcases Nat.eq_zero_or_pos len with h0 | h0
   · subst h0
     have:xs=[]:=List.eq_nil_of_length_eq_zero hxl
     exact ⟨[],_,rfl,.nil sz (some a) cap,by simp⟩
   · have hval:∀ i,i < len->∃ c:List Value,keC w sz row (xs.getD i (xs[0]'(by omega))) c∧∀ j,j < sz->w.cell? ((a.add (i*sz)).add j)=c[j]?:=by
      intro i hi
      have:=hxs i (xs[i]'(by omega)) (List.getElem?_eq_getElem (by omega))
      rw [List.getD_eq_getElem?_getD,List.getElem?_eq_getElem (by omega)]
      exact this
     have hsp:a.spot=none:=by
      obtain ⟨c,hr,hat⟩:=hval 0 h0
      have h1:=hat 0 hsz
      rw [List.getElem?_eq_getElem (by rw [hr.1];exact hsz)] at h1
      have:=kt9 h1
      unfold Addr.add at this
      simp at this
      exact this
     have cell:∀ i j,i < len->j < sz->∃ v,w.cell? ⟨a.block,a.off+(i*sz+j),none⟩=some v∧RepD w (kbH w) (dat ((xs.map row).getD i []) j) v:=by
      intro i j hi hj
      obtain ⟨c,hr,hat⟩:=hval i hi
      have h1:=hat j hj
      rw [kqt hsp,kqt rfl,List.getElem?_eq_getElem (by rw [hr.1];exact hj)] at h1
      have h2:=hr.2 j hj
      have h3:c.getD j undef=c[j]'(by rw [hr.1];exact hj):=by
       rw [List.getD_eq_getElem?_getD,List.getElem?_eq_getElem (by rw [hr.1];exact hj)];rfl
      rw [h3] at h2
      have h4:w.cell? ⟨a.block,a.off+i*sz+j,none⟩=some (c[j]'(by rw [hr.1];exact hj)):=h1
      rw [Nat.add_assoc] at h4
      refine ⟨_,h4,?_⟩
      have e:(xs.map row).getD i []=row (xs.getD i (xs[0]'(by omega))):=by
       rw [List.getD_eq_getElem?_getD,List.getElem?_map,List.getD_eq_getElem?_getD,List.getElem?_eq_getElem (by omega)];rfl
      rw [e]
      exact h2
     have hcell:∀ i j,i < len->j < sz->w.cell? ⟨a.block,a.off+(i*sz+j),none⟩=some ((w.cell? ⟨a.block,a.off+(i*sz+j),none⟩).getD undef):=fun i j hi hj=>by
      obtain ⟨v,hv,_⟩:=cell i j hi hj
      rw [hv];rfl
     have hl2:(xs.map row).length=len:=by rw [List.length_map,hxl]
     have hrep:∀ i j,i < len->j < sz->RepD w (kbH w) (dat ((xs.map row).getD i []) j) ((w.cell? ⟨a.block,a.off+(i*sz+j),none⟩).getD undef):=fun i j hi hj=>by
      obtain ⟨v,hv,hr⟩:=cell i j hi hj
      rw [hv];exact hr
     refine ⟨xs,_,rfl,?_,by omega⟩
     obtain ⟨ab,ao,asp⟩:=a
     cases hsp
     have key:=RepD.list (w:=w) (φ:=kbH w) sz (xs.map row) ab ao cap (fun i j=>(w.cell? ⟨ab,ao+(i*sz+j),none⟩).getD undef) (by omega) (by
      rw [hl2]
      have h3:=kz3 (hcell (len - 1) (sz - 1) (by omega) (by omega))
      have h4:(len - 1)*sz+(sz - 1)+1=len*sz:=by
       obtain ⟨n,rfl⟩:∃ n,len=n+1:=⟨len - 1,by omega⟩
       rw [Nat.add_sub_cancel,Nat.add_mul,Nat.one_mul]
       omega
      have h5:ao+((len - 1)*sz+(sz - 1)) < kbH w ab:=h3
      omega) (by rw [hl2];exact hcell) (by rw [hl2];exact fun i j hi hj=>(hrep i j hi hj).one) (by rw [hl2];exact hrep)
     rw [hl2] at key
     exact key
end
end Go.Proofs.YtaphnbaiamnfpaaGreatDoor.Ps
namespace Go.Proofs.YtaphnbaiamnfpaaGreatDoor.Ps
set_option linter.unusedVariables false
set_option linter.unusedSimpArgs false
set_option maxRecDepth 4000
open Go Go.RowKit Px
open Lx (Tok scan sm dg nm)
def okO (k x:Int):Bool:=if x > 2147483647 then false else if x < 0 then (if k ≠ 15 then false else !decide (x < -2147483647)) else true
theorem okO_0 {k:Int} (h:k ≠ 15):okO k=inO 0:=by
 funext x
 unfold okO inO
 by_cases h1:x > 2147483647
 · rw [if_pos h1,decide_eq_false (by omega:¬ x<=2147483647),Bool.and_false]
 · rw [if_neg h1,decide_eq_true (by omega:x<=2147483647),Bool.and_true]
   by_cases h2:x < 0
   · rw [if_pos h2,if_pos h,decide_eq_false (by omega)]
   · rw [if_neg h2,decide_eq_true (by omega)]
theorem kDe:okO 15=inO (-2147483647):=by
 funext x
 unfold okO inO
 by_cases h1:x > 2147483647
 · rw [if_pos h1,decide_eq_false (by omega:¬ x<=2147483647),Bool.and_false]
 · rw [if_neg h1,decide_eq_true (by omega:x<=2147483647),Bool.and_true]
   by_cases h2:x < 0
   · rw [if_pos h2,if_neg (by decide)]
     by_cases h3:x < -2147483647
     · rw [decide_eq_true h3,decide_eq_false (by omega)];rfl
     · rw [decide_eq_false h3,decide_eq_true (by omega)];rfl
   · rw [if_neg h2,decide_eq_true (by omega)]
def fin (k n:Int) (s:List UInt8) (ns:List (List UInt8)) (os:List Int) (nk:Nat) (x0 x1 x2:Int) (b3 b4:Bool):Bool :=
 os.all (okO k)&&((if k ≠ 1∧k ≠ 2 then decide (n=0) else b3)&&((if k ≠ 3∧k ≠ 4∧k ≠ 7 then s.isEmpty else b4) &&
  ((Int.ofNat nk==x0)&&((Int.ofNat os.length==x1)&&((Int.ofNat ns.length==x2)&&ns.all kaA)))))
section
variable (k n:Int) (s:List UInt8) (ns:List (List UInt8)) (os:List Int) (ks:List E) (a b:Int)
theorem kDf (h:ShortE ns os) (x0 x1 x2:Int) (b3 b4:Bool) :
 Ev (fun _ k' m=>kpN (Ak k') m x0 x1 x2 b3 b4 k n (bx s) (strs ns) (ints os) (E.rows ks) a b) (YB (os.all (okO k)&&(b3&&(b4&&((Int.ofNat ks.length==x0)&&((Int.ofNat os.length==x1)&&((Int.ofNat ns.length==x2)&&ns.all kaA))))))):=by
 have key:∀ (d i:Nat),i<=os.length->os.length - i=d->Ev (fun m k' z=>kvd m (Ak k') z x0 x1 x2 b3 b4 (ints os) (Int.ofNat os.length) (Int.ofNat i) k n (bx s) (strs ns) (ints os) (E.rows ks) a b)
  (YB ((os.drop i).all (okO k)&&(b3&&(b4&&((Int.ofNat ks.length==x0)&&((Int.ofNat os.length==x1)&&((Int.ofNat ns.length==x2)&&ns.all kaA))))))):=by
  intro d
  induction d with
  | zero =>
   intro i hi hd
   rw [List.drop_eq_nil_of_le (by omega)]
   refine Ev.step ?_
   simp only [koo]
   refine Ev.no (kba i _ (by omega)) ?_
   simp only [kvB,kbA,kc7,E.rows_len,List.all_nil,Bool.true_and]
   refine Ev.ifb (fun h1=>?_) (fun h1=>Ev.rb (by rw [h1];rfl))
   rw [h1,Bool.true_and]
   refine Ev.ifb (fun h1=>?_) (fun h1=>Ev.rb (by rw [h1];rfl))
   rw [h1,Bool.true_and]
   refine Ev.ifb (fun h1=>?_) (fun h1=>Ev.rb (by rw [h1];rfl))
   rw [h1,Bool.true_and]
   refine Ev.ifb (fun h1=>?_) (fun h1=>Ev.rb (by rw [h1];rfl))
   rw [h1,Bool.true_and]
   refine Ev.ifb (fun h1=>?_) (fun h1=>Ev.rb (by rw [h1];rfl))
   rw [h1,Bool.true_and]
   exact v_oB (kz2 ns h.hns) (Ev.ret _)
  | succ d ih =>
   intro i hi hd
   have hlt:i < os.length:=by omega
   have hos:=h.hos
   rw [kfi _ _ _ hlt]
   refine Ev.step ?_
   simp only [koo]
   refine Ev.yes (kaz i _ hlt) ?_
   have hat:=kje os i hlt
   unfold dat at hat
   simp only [kvA,tn,hat,kc7]
   have next:okO k os[i]=true->Ev (fun m k' z=>kvf (Ak k') m z x0 x1 x2 b3 b4 (ints os) (Int.ofNat os.length) (Int.ofNat i) k n (bx s) (strs ns) (ints os) (E.rows ks) a b)
    (YB (okO k os[i]&&(os.drop (i+1)).all (okO k)&&(b3&&(b4&&((Int.ofNat ks.length==x0)&&((Int.ofNat os.length==x1)&&((Int.ofNat ns.length==x2)&&ns.all kaA))))))):=fun hk=>by
    simp only [kvD,kap i (show i < 9223372036854775807 by omega)]
    rw [hk,Bool.true_and]
    exact ih (i+1) (by omega) (by omega)
   refine Ev.yes (kak i _ hlt) (Ev.yes rfl ?_)
   show Ev (fun m k' z=>bif decide (os[i] > 2147483647) then _ else _) _
   refine Ev.ifb (fun h1=>Ev.rb ?_) (fun h1=>Ev.yes rfl ?_)
   · rw [show okO k os[i]=false by unfold okO;rw [if_pos (of_decide_eq_true h1)]];rfl
   · have h1:=of_decide_eq_false h1
     show Ev (fun m k' z=>bif decide (os[i] < 0) then _ else _) _
     refine Ev.ifb (fun h2=>?_) (fun h2=>?_)
     · have h2:=of_decide_eq_true h2
       refine Ev.ifb (fun h3=>Ev.rb ?_) (fun h3=>Ev.yes rfl ?_)
       · have h3:k ≠ 15:=by simpa using h3
         rw [show okO k os[i]=false by unfold okO;rw [if_neg h1,if_pos h2,if_pos h3]];rfl
       · have h3:k=15:=by simpa using h3
         show Ev (fun m k' z=>bif decide (os[i] < -2147483647) then _ else _) _
         refine Ev.ifb (fun h4=>Ev.rb ?_) (fun h4=>next ?_)
         · rw [show okO k os[i]=false by unfold okO;rw [if_neg h1,if_pos h2,if_neg (fun e=>e h3),h4];rfl];rfl
         · unfold okO;rw [if_neg h1,if_pos h2,if_neg (fun e=>e h3),h4];rfl
     · have h2:=of_decide_eq_false h2
       refine next ?_
       unfold okO;rw [if_neg h1,if_neg h2]
 simp only [kvw,kc7]
 exact Ev.diag' (key _ 0 (Nat.zero_le _) rfl)
theorem Q_fin (h:ShortE ns os) (x0 x1 x2:Int) (b3 b4:Bool) :
 Ev (fun _ k' m=>kdv (Ak k') m x0 x1 x2 b3 b4 k n (bx s) (strs ns) (ints os) (E.rows ks) a b) (YB (fin k n s ns os ks.length x0 x1 x2 b3 b4)):=by
 unfold fin
 have L:=fun b3 b4=>kDf k n s ns os ks a b h x0 x1 x2 b3 b4
 have two:∀ b3,Ev (fun _ k' m=>ksH (Ak k') m x0 x1 x2 b3 b4 k n (bx s) (strs ns) (ints os) (E.rows ks) a b)
  (YB (os.all (okO k)&&(b3&&((if k ≠ 3∧k ≠ 4∧k ≠ 7 then s.isEmpty else b4)&&((Int.ofNat ks.length==x0)&&((Int.ofNat os.length==x1)&&((Int.ofNat ns.length==x2)&&ns.all kaA))))))):=fun b3=>by
  simp only [kvq,bl0',bl0,e_nil]
  refine Ev.ifb (fun h3=>?_) (fun h3=>?_)
  · have h3:k ≠ 3:=by simpa using h3
    refine Ev.ifb (fun h4=>?_) (fun h4=>?_)
    · have h4:k ≠ 4:=by simpa using h4
      refine Ev.ifb (fun h7=>?_) (fun h7=>?_)
      · have h7:k ≠ 7:=by simpa using h7
        rw [if_pos ⟨h3,h4,h7⟩];exact L _ _
      · have h7:k=7:=by simpa using h7
        rw [if_neg (fun e=>e.2.2 h7)];exact L _ _
    · have h4:k=4:=by simpa using h4
      rw [if_neg (fun e=>e.2.1 h4)];exact L _ _
  · have h3:k=3:=by simpa using h3
    rw [if_neg (fun e=>e.1 h3)];exact L _ _
 simp only [kvm,klB]
 refine Ev.ifb (fun h1=>?_) (fun h1=>?_)
 · have h1:k ≠ 1:=by simpa using h1
   refine Ev.ifb (fun h2=>?_) (fun h2=>?_)
   · have h2:k ≠ 2:=by simpa using h2
     rw [if_pos ⟨h1,h2⟩];exact two _
   · have h2:k=2:=by simpa using h2
     rw [if_neg (fun e=>e.2 h2)];exact two _
 · have h1:k=1:=by simpa using h1
   rw [if_neg (fun e=>e.1 h1)];exact two _
end
theorem leafS {F:Nat->Nat->Nat->Option Out} {x y:Bool} (h:Ev F (YB x)) (e:x=y):Ev F (YB y):=e▸h
theorem kxW (a:Nat):(Int.ofNat a==if (4:Int) < if Int.ofNat a < 2 then 2 else Int.ofNat a then 4 else if Int.ofNat a < 2 then 2 else Int.ofNat a)=(decide (2<=a)&&decide (a<=4)):=by
 rw [Bool.eq_iff_iff]
 by_cases h:Int.ofNat a < 2
 · rw [if_pos h,if_neg (by decide)]
   simp only [beq_iff_eq,Bool.and_eq_true,decide_eq_true_eq,Int.ofNat_eq_natCast] at *
   omega
 · rw [if_neg h]
   by_cases h4:(4:Int) < Int.ofNat a
   · rw [if_pos h4]
     simp only [beq_iff_eq,Bool.and_eq_true,decide_eq_true_eq,Int.ofNat_eq_natCast] at *
     omega
   · rw [if_neg h4]
     refine iff_of_true (beq_self_eq_true _) ?_
     simp only [Bool.and_eq_true,decide_eq_true_eq,Int.ofNat_eq_natCast] at *
     omega
theorem kxX (a:Nat):(Int.ofNat a==if (4:Int) < if Int.ofNat a < 1 then 1 else Int.ofNat a then 4 else if Int.ofNat a < 1 then 1 else Int.ofNat a)=(decide (1<=a)&&decide (a<=4)):=by
 rw [Bool.eq_iff_iff]
 by_cases h:Int.ofNat a < 1
 · rw [if_pos h,if_neg (by decide)]
   simp only [beq_iff_eq,Bool.and_eq_true,decide_eq_true_eq,Int.ofNat_eq_natCast] at *
   omega
 · rw [if_neg h]
   by_cases h4:(4:Int) < Int.ofNat a
   · rw [if_pos h4]
     simp only [beq_iff_eq,Bool.and_eq_true,decide_eq_true_eq,Int.ofNat_eq_natCast] at *
     omega
   · rw [if_neg h4]
     refine iff_of_true (beq_self_eq_true _) ?_
     simp only [Bool.and_eq_true,decide_eq_true_eq,Int.ofNat_eq_natCast] at *
     omega
theorem kxY (a:Nat):(Int.ofNat a==if Int.ofNat a < 1 then 1 else Int.ofNat a)=decide (1<=a):=by
 rw [Bool.eq_iff_iff]
 by_cases h:Int.ofNat a < 1
 · rw [if_pos h]
   simp only [beq_iff_eq,decide_eq_true_eq,Int.ofNat_eq_natCast] at *
   omega
 · rw [if_neg h]
   refine iff_of_true (beq_self_eq_true _) ?_
   simp only [decide_eq_true_eq,Int.ofNat_eq_natCast] at *
   omega
theorem kqv (a c:Nat):(Int.ofNat c==if Int.ofNat a < 1 then 1 else Int.ofNat a)=((decide (c=a)&&decide (1<=a)) || (decide (c=1)&&decide (a=0))):=by
 rw [Bool.eq_iff_iff]
 by_cases h:Int.ofNat a < 1
 · rw [if_pos h]
   simp only [beq_iff_eq,Bool.or_eq_true,Bool.and_eq_true,decide_eq_true_eq,Int.ofNat_eq_natCast] at *
   omega
 · rw [if_neg h]
   simp only [beq_iff_eq,Bool.or_eq_true,Bool.and_eq_true,decide_eq_true_eq,Int.ofNat_eq_natCast] at *
   omega
theorem kqw (a:Nat):(Int.ofNat a==Int.ofNat a)=true:=beq_self_eq_true _
theorem kz4 (k n:Int) (s:List UInt8) (ns:List (List UInt8)) (os:List Int) (ks:List E) (a b:Int) (h:ShortE ns os):Cal 91 [eV (.mk k n s ns os ks a b)] [] (YB (shaped k n s ns os ks.length)):=by
 refine kFS _ _ _ _ _ _ _ _ ?_
 simp only [E.k,E.n,E.name,E.names,E.odds,E.kids,E.line,E.col]
 simp only [kFM,kvn,kbA,kc7,E.rows_len,klB]
 have c1:=km7 s
 have c2:=khl s
 have L:=Q_fin k n s ns os ks a b h
 have b0:∀ x:Nat,(Int.ofNat x==0)=decide (x=0):=fun x=>kcx x 0
 have b4:∀ x:Nat,(Int.ofNat x==1)=decide (x=1):=fun x=>kcx x 1
 have b5:∀ x:Nat,(Int.ofNat x==2)=decide (x=2):=fun x=>kcx x 2
 have b6:∀ x:Nat,(Int.ofNat x==3)=decide (x=3):=fun x=>kcx x 3
 have e1:ns.isEmpty=decide (ns.length=0):=by cases ns<;>rfl
 have e2:os.isEmpty=decide (os.length=0):=by cases os<;>rfl
 have hns:ns.length=0->ns.all kaA=true:=fun e=>by rw [List.eq_nil_of_length_eq_zero e];rfl
 have hos:∀ lo,os.length=0->os.all (inO lo)=true:=fun lo e=>by rw [List.eq_nil_of_length_eq_zero e];rfl
 have hos:=hos 0
 have hos2:os.length=0->os.all (inO (-2147483647))=true:=fun e=>by rw [List.eq_nil_of_length_eq_zero e];rfl
 have hl7:lvl s<=7:=by
  unfold lvl
  repeat' split
  all_goals omega
 unfold fin at L
 unfold shaped
 rw [e1,e2]
 clear e1 e2 h
 generalize ks.length=nk at *
 by_cases hk:k=1∨k=2∨k=3∨k=4∨k=5∨k=6∨k=7∨k=8∨k=9∨k=10∨k=11∨k=12∨k=13∨k=14∨k=15
 · rcases hk with rfl | rfl | rfl | rfl | rfl | rfl | rfl | rfl | rfl | rfl | rfl | rfl | rfl | rfl | rfl
   all_goals first | rw [kDe] at L | rw [okO_0 (by decide)] at L
   all_goals simp only [b0,b4,b5,b6,kxW,kxX,kxY,kqv,kqw,if_true,Int.reduceEq,if_false,ne_eq,not_true_eq_false,not_false_eq_true,and_true,true_and,and_self,false_and,and_false] at L ⊢
   all_goals (repeat' first | (refine Ev.yes rfl ?_) | (refine Ev.no rfl ?_) | (refine v_oB c1 ?_) | (refine v_oI c2 ?_) | (refine Ev.ifb (fun h=>?_) (fun h=>?_)))
   all_goals refine leafS (L _ _ _ _ _) ?_
   all_goals (clear L c1 c2;rw [Bool.eq_iff_iff])
   all_goals simp only [kxW,kxX,kxY,kqv,kqw,b0,b4,b5,b6,klB,inO,Bool.and_eq_true,Bool.or_eq_true,decide_eq_true_eq,decide_eq_false_iff_not,beq_iff_eq,Int.ofNat_eq_natCast] at *
   all_goals (by_cases hA:os.all (inO 0)=true<;>by_cases hA2:os.all (inO (-2147483647))=true<;>by_cases hB:ns.all kaA=true<;>by_cases hC:s.isEmpty=true<;>by_cases hD:kaA s=true<;>simp only [Bool.false_eq_true,imp_false,inO,hA,hA2,hB,hC,hD,true_and,and_true,false_and,and_false,iff_true,iff_false,true_iff,false_iff,not_true_eq_false,not_false_eq_true] at *<;>first | done | omega)
 · simp only [not_or] at hk
   obtain ⟨k1,k2,k3,k4,k5,k6,k7,k8,k9,k10,k11,k12,k13,k14,k15⟩:=hk
   have kk:∀ κ:Int,k ≠ κ->decide (k=κ)=false:=fun κ hk=>decide_eq_false hk
   simp only [kk _ k1,kk _ k2,kk _ k3,kk _ k4,kk _ k5,kk _ k6,kk _ k7,kk _ k8,kk _ k9,kk _ k10,kk _ k11,kk _ k12,kk _ k13,kk _ k14,kk _ k15,cond_false]
   simp only [if_neg k1,if_neg k2,if_neg k3,if_neg k4,if_neg k5,if_neg k6,if_neg k7,if_neg k8,if_neg k9,if_neg k10,if_neg k11,if_neg k12,if_neg k13,if_neg k14,if_neg k15]
   repeat' first | (refine Ev.ifb (fun h=>?_) (fun h=>?_)) | (exact Ev.rb rfl)
end Go.Proofs.YtaphnbaiamnfpaaGreatDoor.Ps
namespace Go.Proofs.YtaphnbaiamnfpaaGreatDoor.Ps
set_option linter.unusedVariables false
set_option linter.unusedSimpArgs false
open Go Go.RowKit Px
open Lx (Tok)
theorem khm (d:Nat):∀ l:List E,kcr d l=l.all (kaH d)
 | []=>by rw [kcr];rfl
 | x :: r=>by rw [kcr,khm d r,List.all_cons]
theorem khn (d:Nat):∀ l:List T,keO d l=l.all (ka8 d)
 | []=>by rw [keO];rfl
 | x :: r=>by rw [keO,khn d r,List.all_cons]
theorem kho:∀ {l:List E},kff l->∀ x∈l,LenE x
 | y :: r,h,x,hx=>by
  rw [kff] at h
  rcases List.mem_cons.1 hx with rfl | hx
  · exact h.1
  · exact kho h.2 x hx
theorem kkp:∀ {l:List T},kfg l->∀ x∈l,LenT x
 | y :: r,h,x,hx=>by
  rw [kfg] at h
  rcases List.mem_cons.1 hx with rfl | hx
  · exact h.1
  · exact kkp h.2 x hx
theorem kDg {k n:Int} {s:List UInt8} {ns:List (List UInt8)} {os:List Int} {ks:List E} {a b:Int} (h:LenE (.mk k n s ns os ks a b)):ShortE ns os:=by
 rw [LenE] at h
 exact ⟨by omega,by omega⟩
theorem km9:∀ (d:Nat),d<=40->∀ e:E,LenE e->Cal 51 [eV e,V.one (iX (Int.ofNat d))] [] (YB (kaH d e))
 | 0,_,.mk k n s ns os ks a b,hl=>by
  refine ky1 _ _ _ _ _ _ _ _ _ ?_
  simp only [ky0]
  refine Ev.yes rfl (Ev.rb ?_)
  rw [kaH]
 | d+1,hd,.mk k n s ns os ks a b,hl=>by
  refine ky1 _ _ _ _ _ _ _ _ _ ?_
  simp only [ky0]
  refine Ev.no (decide_eq_false (by simp only [Int.ofNat_eq_natCast];omega)) ?_
  refine v_oB (kz4 k n s ns os ks a b (kDg hl)) ?_
  rw [kaH]
  cases hs:shaped k n s ns os ks.length with
  | false=>exact Ev.yes rfl (Ev.rb rfl)
  | true =>
   rw [Bool.true_and,khm]
   rw [LenE] at hl
   refine Ev.no rfl ?_
   show Ev (fun _ k' m=>kBG (Ak k') m (Int.ofNat (d+1)) k n (bx s) (strs ns) (ints os) (E.rows ks) a b) _
   simp only [kvl,E.rows_len]
   have key:∀ (z i:Nat),i<=ks.length->ks.length - i=z->Ev (fun m k' y=>kvb m (Ak k') y (Int.ofNat (d+1)) (E.rows ks) (Int.ofNat ks.length) (Int.ofNat i)) (YB ((ks.drop i).all (kaH d))):=by
    intro z
    induction z with
    | zero =>
     intro i hi hz
     rw [List.drop_eq_nil_of_le (by omega)]
     refine Ev.step ?_
     simp only [kon]
     exact Ev.no (kba i _ (by omega)) (Ev.of fun m k n=>by rw [kvt];rfl)
    | succ z ih =>
     intro i hi hz
     have hlt:i < ks.length:=by omega
     rw [kfi _ _ _ hlt]
     refine Ev.step ?_
     simp only [kon]
     refine Ev.yes (kaz i _ hlt) ?_
     simp only [kvs,tn,E.rows_at ks i hlt,E.row_eq,E.rows_len]
     refine Ev.yes (kak i _ hlt) ?_
     have hw:IntKind.wrap .i64 (Int.ofNat (d+1) - 1)=Int.ofNat d:=by
      rw [wrap_in _ (by simp only [Int.ofNat_eq_natCast];omega) (by simp only [Int.ofNat_eq_natCast];omega)]
      simp only [Int.ofNat_eq_natCast];omega
     rw [hw]
     refine v_oB (km9 d (by omega) ks[i] (kho hl.2 _ (List.getElem_mem hlt))) ?_
     cases hn:kaH d ks[i] with
     | false=>exact Ev.yes rfl (Ev.rb rfl)
     | true =>
      refine Ev.no rfl ?_
      simp only [kvy,kap i (show i < 9223372036854775807 by omega)]
      exact ih (i+1) (by omega) (by omega)
   exact Ev.diag' (key _ 0 (Nat.zero_le _) rfl)
theorem keS (e:E) (hl:LenE e):Cal 21 [eV e] [] (YB (kaH 40 e)):=by
 refine kFP _ _ _ _ _ _ _ _ ?_
 simp only [kFJ]
 exact v_oB (km9 40 (Nat.le_refl _) e hl) (Ev.ret _)
end Go.Proofs.YtaphnbaiamnfpaaGreatDoor.Ps
namespace Go.Proofs.YtaphnbaiamnfpaaGreatDoor.Ps
set_option linter.unusedVariables false
set_option linter.unusedSimpArgs false
set_option maxRecDepth 100000
open Go Go.RowKit Px
theorem klC (cs:List Value) (off c j:Nat) (h:j < c):((cs.drop off).take c).getD j undef=cs.getD (off+j) undef:=by
 rw [List.getD_eq_getElem?_getD,List.getD_eq_getElem?_getD,List.getElem?_take_of_lt h,List.getElem?_drop]
theorem klD {cs:List Value} {off:Nat} {v:Value} (h:(cs.drop off).take 1=[v]):cs.getD off undef=v:=by
 have:=klC cs off 1 0 (by omega)
 rw [h] at this
 exact this.symm
section
variable {H:Type} {enc:TypeId × Value->H} {w:World} {base:Nat} {spare:Nat->Bool} {held:Bool}
theorem c1:Tryz.prog.cellsOf 3=1∧Tryz.prog.cellsOf 9=1∧Tryz.prog.cellsOf 24=1∧Tryz.prog.cellsOf 25=1∧Tryz.prog.cellsOf 26=1∧Tryz.prog.cellsOf 22=1∧Tryz.prog.cellsOf 23=1∧Tryz.prog.cellsOf 47=1:=⟨by kernel_rfl,by kernel_rfl,by kernel_rfl,by kernel_rfl,by kernel_rfl,by kernel_rfl,by kernel_rfl,by kernel_rfl⟩
theorem c2:Tryz.prog.cellsOf 49=2∧Tryz.prog.cellsOf 28=8∧Tryz.prog.cellsOf 51=5∧Tryz.prog.cellsOf 53=14∧Tryz.prog.cellsOf 30=10:=⟨by kernel_rfl,by kernel_rfl,by kernel_rfl,by kernel_rfl,by kernel_rfl⟩
theorem kz5:∀ fuel cs x,DataW.trod enc Tryz.prog w base spare held fuel 9 cs=some x->(x.1.weights Tryz.prog 9).all (·<=reachBytes)=true->∃ s:List UInt8,keC w 1 (fun s=>[D.str (bx s)]) s cs:=by
 intro fuel cs x h hW
 obtain ⟨s,hk,_,_⟩:=DataW.trod_string Tryz.underlying9 h
 cases hk
 refine ⟨s.data.toList,rfl,fun j hj=>?_⟩
 match j,hj with
 | 0,_ =>
  show RepD _ _ (D.str (bx s.data.toList)) _
  rw [kqn]
  exact .str _
theorem kz6:∀ fuel cs x,DataW.trod enc Tryz.prog w base spare held fuel 3 cs=some x->(x.1.weights Tryz.prog 3).all (·<=reachBytes)=true->∃ n:Int,keC w 1 (fun n=>[D.int IntKind.i64 n]) n cs:=by
 intro fuel cs x h hW
 obtain ⟨k,hk,_,_⟩:=DataW.trod_int Tryz.underlying3 h
 cases hk
 refine ⟨k,rfl,fun j hj=>?_⟩
 match j,hj with
 | 0,_=>exact .int _ _
theorem kjf {n off:Nat} {cs:List Value} {y:Option (DataW H × List MemPlace)} {z:DataW H × List MemPlace} (h:DataW.trod enc Tryz.prog w base spare held n 3 ((cs.drop off).take (Tryz.prog.cellsOf 3))=y) (hy:y=some z):∃ k:Int,RepD w (kbH w) (.int .i64 k) (cs.getD off undef):=by
 rw [c1.1,hy] at h
 obtain ⟨k,hk,_,_⟩:=DataW.trod_int Tryz.underlying3 h
 rw [klD hk]
 exact ⟨k,.int _ _⟩
theorem kz7 {n off:Nat} {cs:List Value} {y:Option (DataW H × List MemPlace)} {z:DataW H × List MemPlace} (h:DataW.trod enc Tryz.prog w base spare held n 9 ((cs.drop off).take (Tryz.prog.cellsOf 9))=y) (hy:y=some z):∃ s:List UInt8,RepD w (kbH w) (.str (bx s)) (cs.getD off undef):=by
 rw [c1.2.1,hy] at h
 obtain ⟨s,hk,_,_⟩:=DataW.trod_string Tryz.underlying9 h
 rw [klD hk]
 refine ⟨s.data.toList,?_⟩
 rw [kqn]
 exact .str _
theorem khp {α:Type} {row:α->List D} {t e sz n off:Nat} {cs:List Value} {y:Option (DataW H × List MemPlace)} {z:DataW H × List MemPlace} (hu:Tryz.prog.underlying t=some (.slice e)) (h1:Tryz.prog.cellsOf t=1) (hc:Tryz.prog.cellsOf e=sz) (hsz:0 < sz)
 (he:∀ m,m < n->∀ cs y,DataW.trod enc Tryz.prog w base spare held m e cs=some y->(y.1.weights Tryz.prog e).all (·<=reachBytes)=true->∃ a:α,keC w sz row a cs) (hbe:0 < Tryz.prog.bytesOf e) (hwz:(z.1.weights Tryz.prog t).all (·<=reachBytes)=true) (h:DataW.trod enc Tryz.prog w base spare held n t ((cs.drop off).take (Tryz.prog.cellsOf t))=y) (hy:y=some z) :
 ∃ l:List α,l.length<=140737488351232∧RepD w (kbH w) (.list sz (l.map row)) (cs.getD off undef):=by
 rw [h1,hy] at h
 obtain ⟨l,v,hv,hr,hl⟩:=kqu hu hc hsz he h hwz hbe
 rw [klD hv]
 exact ⟨l,hl,hr⟩
theorem kkq:∀ l:List T,(∀ x∈l,LenT x)->kfg l
 | [],_=>by rw [kfg];trivial
 | x :: r,h=>by rw [kfg];exact ⟨h x (by simp),kkq r fun y hy=>h y (by simp [hy])⟩
theorem kkr:∀ l:List E,(∀ x∈l,LenE x)->kff l
 | [],_=>by rw [kff];trivial
 | x :: r,h=>by rw [kff];exact ⟨h x (by simp),kkr r fun y hy=>h y (by simp [hy])⟩
theorem vals {α:Type} {p:α->Prop} (l:List { a:α // p a }):∀ x∈l.map (·.1),p x:=fun x hx=>by
 obtain ⟨a,_,rfl⟩:=List.mem_map.1 hx
 exact a.2
abbrev TL:Type:={ t:T // LenT t }
abbrev EL:Type:={ e:E // LenE e }
abbrev FL:Type:={ f:Fld // LenT f.typ }
abbrev NL:Type:={ f:Fnc // LenFn f }
theorem kaE {α:Type} (xs:List α) (i:Nat) (h:i < xs.length):xs[i]? = some xs[i]:=List.getElem?_eq_getElem h
theorem rep_T:∀ fuel cs x,DataW.trod enc Tryz.prog w base spare held fuel 49 cs=some x->(x.1.weights Tryz.prog 49).all (·<=reachBytes)=true->∃ t:TL,keC w 2 (fun t:TL=>T.row t.1) t cs:=by
 intro fuel
 induction fuel using Nat.strongRecOn with
 | ind fuel ih =>
  intro cs x h hW
  obtain ⟨xs,n,hn,hx,hl,hxs,hat⟩:=DataW.trod_struct Tryz.underlying49 h
  rw [hx] at hW
  rw [c2.1] at hl
  replace hxs:xs.length=2:=hxs
  obtain ⟨k,r0⟩:=kjf (hat 0 _ rfl) (kaE xs 0 (by omega))
  obtain ⟨l,hll,r1⟩:=khp (row:=fun t:TL=>T.row t.1) Tryz.underlying47 c1.2.2.2.2.2.2.2 c2.1 (by omega) (fun m hm=>ih m (by omega)) (of_decide_eq_true (by kernel_rfl)) (kbB (ps:=[]) (i:=1) Tryz.underlying49 hW rfl (kaE xs 1 (by omega))) (hat 1 _ rfl) (kaE xs 1 (by omega))
  refine ⟨⟨.mk k (l.map (·.1)),by rw [LenT];exact ⟨by rw [List.length_map];exact hll,kkq _ (vals l)⟩⟩,hl,fun j hj=>?_⟩
  show RepD _ _ (dat (T.row (.mk k (l.map (·.1)))) j) _
  rw [T.row,T.rows_map,List.map_map]
  match j,hj with
  | 0,_=>exact r0
  | 1,_=>exact r1
theorem rep_E:∀ fuel cs x,DataW.trod enc Tryz.prog w base spare held fuel 28 cs=some x->(x.1.weights Tryz.prog 28).all (·<=reachBytes)=true->∃ t:EL,keC w 8 (fun t:EL=>E.row t.1) t cs:=by
 intro fuel
 induction fuel using Nat.strongRecOn with
 | ind fuel ih =>
  intro cs x h hW
  obtain ⟨xs,n,hn,hx,hl,hxs,hat⟩:=DataW.trod_struct Tryz.underlying28 h
  rw [hx] at hW
  rw [c2.2.1] at hl
  replace hxs:xs.length=8:=hxs
  obtain ⟨k,r0⟩:=kjf (hat 0 _ rfl) (kaE xs 0 (by omega))
  obtain ⟨nn,r1⟩:=kjf (hat 1 _ rfl) (kaE xs 1 (by omega))
  obtain ⟨s,r2⟩:=kz7 (hat 2 _ rfl) (kaE xs 2 (by omega))
  obtain ⟨ns,hns,r3⟩:=khp (row:=fun s:List UInt8=>[D.str (bx s)]) Tryz.underlying24 c1.2.2.1 c1.2.1 (by omega) (fun m hm=>kz5 m) (of_decide_eq_true (by kernel_rfl)) (kbB (ps:=[]) (i:=3) Tryz.underlying28 hW rfl (kaE xs 3 (by omega))) (hat 3 _ rfl) (kaE xs 3 (by omega))
  obtain ⟨os,hos,r4⟩:=khp (row:=fun n:Int=>[D.int IntKind.i64 n]) Tryz.underlying25 c1.2.2.2.1 c1.1 (by omega) (fun m hm=>kz6 m) (of_decide_eq_true (by kernel_rfl)) (kbB (ps:=[]) (i:=4) Tryz.underlying28 hW rfl (kaE xs 4 (by omega))) (hat 4 _ rfl) (kaE xs 4 (by omega))
  obtain ⟨l,hll,r5⟩:=khp (row:=fun t:EL=>E.row t.1) Tryz.underlying26 c1.2.2.2.2.1 c2.2.1 (by omega) (fun m hm=>ih m (by omega)) (of_decide_eq_true (by kernel_rfl)) (kbB (ps:=[]) (i:=5) Tryz.underlying28 hW rfl (kaE xs 5 (by omega))) (hat 5 _ rfl) (kaE xs 5 (by omega))
  obtain ⟨a,r6⟩:=kjf (hat 6 _ rfl) (kaE xs 6 (by omega))
  obtain ⟨b,r7⟩:=kjf (hat 7 _ rfl) (kaE xs 7 (by omega))
  refine ⟨⟨.mk k nn s ns os (l.map (·.1)) a b,by rw [LenE];exact ⟨⟨hns,hos,by rw [List.length_map];exact hll⟩,kkr _ (vals l)⟩⟩,hl,fun j hj=>?_⟩
  show RepD _ _ (dat (E.row (.mk k nn s ns os (l.map (·.1)) a b)) j) _
  rw [E.row,E.rows_map,List.map_map]
  match j,hj with
  | 0,_=>exact r0
  | 1,_=>exact r1
  | 2,_=>exact r2
  | 3,_=>exact r3
  | 4,_=>exact r4
  | 5,_=>exact r5
  | 6,_=>exact r6
  | 7,_=>exact r7
theorem f_T {n off:Nat} {cs:List Value} {y:Option (DataW H × List MemPlace)} {z:DataW H × List MemPlace} (hwz:(z.1.weights Tryz.prog 49).all (·<=reachBytes)=true) (h:DataW.trod enc Tryz.prog w base spare held n 49 ((cs.drop off).take (Tryz.prog.cellsOf 49))=y) (hy:y=some z):∃ t:T,LenT t∧∀ j,j < 2->RepD w (kbH w) (dat (T.row t) j) (cs.getD (off+j) undef):=by
 rw [c2.1,hy] at h
 obtain ⟨t,_,hr⟩:=rep_T _ _ _ h hwz
 exact ⟨t.1,t.2,fun j hj=>by rw [<- klC cs off 2 j hj];exact hr j hj⟩
theorem f_E {n off:Nat} {cs:List Value} {y:Option (DataW H × List MemPlace)} {z:DataW H × List MemPlace} (hwz:(z.1.weights Tryz.prog 28).all (·<=reachBytes)=true) (h:DataW.trod enc Tryz.prog w base spare held n 28 ((cs.drop off).take (Tryz.prog.cellsOf 28))=y) (hy:y=some z):∃ t:E,LenE t∧∀ j,j < 8->RepD w (kbH w) (dat (E.row t) j) (cs.getD (off+j) undef):=by
 rw [c2.2.1,hy] at h
 obtain ⟨t,_,hr⟩:=rep_E _ _ _ h hwz
 exact ⟨t.1,t.2,fun j hj=>by rw [<- klC cs off 8 j hj];exact hr j hj⟩
theorem kDh:∀ fuel cs x,DataW.trod enc Tryz.prog w base spare held fuel 51 cs=some x->(x.1.weights Tryz.prog 51).all (·<=reachBytes)=true->∃ t:FL,keC w 5 (fun t:FL=>Fld.row t.1) t cs:=by
 intro fuel cs x h hW
 obtain ⟨xs,n,hn,hx,hl,hxs,hat⟩:=DataW.trod_struct Tryz.underlying51 h
 rw [hx] at hW
 rw [c2.2.2.1] at hl
 replace hxs:xs.length=4:=hxs
 obtain ⟨s,r0⟩:=kz7 (hat 0 _ rfl) (kaE xs 0 (by omega))
 obtain ⟨t,ht,r1⟩:=f_T (kbB (ps:=[]) (i:=1) Tryz.underlying51 hW rfl (kaE xs 1 (by omega))) (hat 1 _ rfl) (kaE xs 1 (by omega))
 obtain ⟨a,r2⟩:=kjf (hat 2 _ rfl) (kaE xs 2 (by omega))
 obtain ⟨b,r3⟩:=kjf (hat 3 _ rfl) (kaE xs 3 (by omega))
 refine ⟨⟨⟨s,t,a,b⟩,ht⟩,hl,fun j hj=>?_⟩
 simp only [T.row_eq] at r1
 show RepD _ _ (dat (Fld.row ⟨s,t,a,b⟩) j) _
 rw [Fld.row_eq]
 match j,hj with
 | 0,_=>exact r0
 | 1,_=>exact r1 0 (by omega)
 | 2,_=>exact r1 1 (by omega)
 | 3,_=>exact r2
 | 4,_=>exact r3
theorem rep_N:∀ fuel cs x,DataW.trod enc Tryz.prog w base spare held fuel 53 cs=some x->(x.1.weights Tryz.prog 53).all (·<=reachBytes)=true->∃ t:NL,keC w 14 (fun t:NL=>Fnc.row t.1) t cs:=by
 intro fuel cs x h hW
 obtain ⟨xs,n,hn,hx,hl,hxs,hat⟩:=DataW.trod_struct Tryz.underlying53 h
 rw [hx] at hW
 rw [c2.2.2.2.1] at hl
 replace hxs:xs.length=6:=hxs
 obtain ⟨s,r0⟩:=kz7 (hat 0 _ rfl) (kaE xs 0 (by omega))
 obtain ⟨l,hll,r1⟩:=khp (row:=fun t:FL=>Fld.row t.1) Tryz.underlying22 c1.2.2.2.2.2.1 c2.2.2.1 (by omega) (fun m hm=>kDh m) (of_decide_eq_true (by kernel_rfl)) (kbB (ps:=[]) (i:=1) Tryz.underlying53 hW rfl (kaE xs 1 (by omega))) (hat 1 _ rfl) (kaE xs 1 (by omega))
 obtain ⟨t,ht,r2⟩:=f_T (kbB (ps:=[]) (i:=2) Tryz.underlying53 hW rfl (kaE xs 2 (by omega))) (hat 2 _ rfl) (kaE xs 2 (by omega))
 obtain ⟨e,he,r3⟩:=f_E (kbB (ps:=[]) (i:=3) Tryz.underlying53 hW rfl (kaE xs 3 (by omega))) (hat 3 _ rfl) (kaE xs 3 (by omega))
 obtain ⟨a,r4⟩:=kjf (hat 4 _ rfl) (kaE xs 4 (by omega))
 obtain ⟨b,r5⟩:=kjf (hat 5 _ rfl) (kaE xs 5 (by omega))
 refine ⟨⟨⟨s,l.map (·.1),t,e,a,b⟩,⟨by rw [List.length_map];exact hll,vals l,ht,he⟩⟩,hl,fun j hj=>?_⟩
 simp only [T.row_eq] at r2
 simp only [E.row_eq] at r3
 have e1:l.map (fun t:FL=>Fld.row t.1)=Fld.rows (l.map (·.1)):=by unfold Fld.rows;rw [List.map_map];rfl
 rw [e1] at r1
 show RepD _ _ (dat (Fnc.row ⟨s,l.map (·.1),t,e,a,b⟩) j) _
 rw [Fnc.row_eq]
 match j,hj with
 | 0,_=>exact r0
 | 1,_=>exact r1
 | 2,_=>exact r2 0 (by omega)
 | 3,_=>exact r2 1 (by omega)
 | 4,_=>exact r3 0 (by omega)
 | 5,_=>exact r3 1 (by omega)
 | 6,_=>exact r3 2 (by omega)
 | 7,_=>exact r3 3 (by omega)
 | 8,_=>exact r3 4 (by omega)
 | 9,_=>exact r3 5 (by omega)
 | 10,_=>exact r3 6 (by omega)
 | 11,_=>exact r3 7 (by omega)
 | 12,_=>exact r4
 | 13,_=>exact r5
theorem arg_P {fuel:Nat} {v:Value} {x:DataW H × List MemPlace} (hv:∃ u,v=.agg u) (h:DataW.trod enc Tryz.prog w base spare held fuel 30 v.cells.toList=some x) (hW:(x.1.weights Tryz.prog 30).all (·<=reachBytes)=true):∃ p:Pg,LenP p∧RepV (g0 w) (pV p) v:=by
 obtain ⟨u,rfl⟩:=hv
 obtain ⟨xs,n,hn,hx,hl,hxs,hat⟩:=DataW.trod_struct Tryz.underlying30 h
 rw [hx] at hW
 rw [c2.2.2.2.2] at hl
 replace hxs:xs.length=3:=hxs
 obtain ⟨l,hll,r0⟩:=khp (row:=fun t:FL=>Fld.row t.1) Tryz.underlying22 c1.2.2.2.2.2.1 c2.2.2.1 (by omega) (fun m hm=>kDh m) (of_decide_eq_true (by kernel_rfl)) (kbB (ps:=[]) (i:=0) Tryz.underlying30 hW rfl (kaE xs 0 (by omega))) (hat 0 _ rfl) (kaE xs 0 (by omega))
 obtain ⟨q,hql,r1⟩:=khp (row:=fun t:NL=>Fnc.row t.1) Tryz.underlying23 c1.2.2.2.2.2.2.1 c2.2.2.2.1 (by omega) (fun m hm=>rep_N m) (of_decide_eq_true (by kernel_rfl)) (kbB (ps:=[]) (i:=1) Tryz.underlying30 hW rfl (kaE xs 1 (by omega))) (hat 1 _ rfl) (kaE xs 1 (by omega))
 obtain ⟨e,he,r2⟩:=f_E (kbB (ps:=[]) (i:=2) Tryz.underlying30 hW rfl (kaE xs 2 (by omega))) (hat 2 _ rfl) (kaE xs 2 (by omega))
 have e1:l.map (fun t:FL=>Fld.row t.1)=Fld.rows (l.map (·.1)):=by unfold Fld.rows;rw [List.map_map];rfl
 have e2:q.map (fun t:NL=>Fnc.row t.1)=Fnc.rows (q.map (·.1)):=by unfold Fnc.rows;rw [List.map_map];rfl
 rw [e1] at r0
 rw [e2] at r1
 simp only [E.row_eq] at r2
 refine ⟨⟨l.map (·.1),q.map (·.1),e⟩,⟨by rw [List.length_map];exact hll,vals l,by rw [List.length_map];exact hql,vals q,he⟩,?_⟩
 have key:=RepV.agg (g:=g0 w) (pX ⟨l.map (·.1),q.map (·.1),e⟩) u.toList hl (fun j hj=>by
  replace hj:j < 10:=hj
  match j,hj with
  | 0,_=>exact .d _ _ r0
  | 1,_=>exact .d _ _ r1
  | 2,_=>exact .d _ _ (r2 0 (by omega))
  | 3,_=>exact .d _ _ (r2 1 (by omega))
  | 4,_=>exact .d _ _ (r2 2 (by omega))
  | 5,_=>exact .d _ _ (r2 3 (by omega))
  | 6,_=>exact .d _ _ (r2 4 (by omega))
  | 7,_=>exact .d _ _ (r2 5 (by omega))
  | 8,_=>exact .d _ _ (r2 6 (by omega))
  | 9,_=>exact .d _ _ (r2 7 (by omega)))
 exact key
end
end Go.Proofs.YtaphnbaiamnfpaaGreatDoor.Ps
namespace Go.Proofs.YtaphnbaiamnfpaaGreatDoor
open Go Go.RowKit Go.Proofs.YtaphnbaiamnfpaaGreatDoor.Ps
def laidV : List (String × DataW Unit) := [("math/bits.deBruijn32tab", Rows.laid_math_bits_deBruijn32tab), ("math/bits.deBruijn64tab", Rows.laid_math_bits_deBruijn64tab), ("internal/strconv.uint64pow10", Rows.laid_internal_strconv_uint64pow10)]
set_option maxRecDepth 100000
theorem kks {W:World} (h:laidMetH Tryz.prog laidV W) (hS:W.ShapedOpen Tryz.prog):Sane W:=by
 rw [MakeChecks.laidMetH_plain _ _ _ (by kernel_rfl)] at h
 obtain ⟨ps,⟨g0,t0,cs0,f0,p0,q0,hg0,ht0,hv0,hd0,⟨g1,t1,cs1,f1,p1,q1,hg1,ht1,hv1,hd1,⟨g2,t2,cs2,f2,p2,q2,hg2,ht2,hv2,hd2,_,_⟩,_⟩,_⟩,_⟩:=h
 have gP : Tryz.prog.globalNamed "internal/strconv.uint64pow10" = some 1 := by kernel_rfl
 have yP:(Tryz.prog.globals[1]?).map (·.type)=some 166:=by kernel_rfl
 obtain rfl:=Option.some.inj (gP.symm.trans hg2)
 obtain rfl:=Option.some.inj (yP.symm.trans ht2)
 refine ⟨kjF hS,?_⟩
 have e:(Rows.laid_internal_strconv_uint64pow10:DataW Unit)=Lib.tabData .u64 Lib.pow10Tab:=by kernel_rfl
 rw [e] at hd2
 have:=Lib.cells_of_tab Tryz.underlying166 Tryz.underlying148 (by kernel_rfl) (by kernel_rfl) hd2
 unfold Lib.TabIs
 rw [hv2,<- this]
end Go.Proofs.YtaphnbaiamnfpaaGreatDoor
namespace Go.Proofs.YtaphnbaiamnfpaaGreatDoor.Ps
set_option linter.unusedVariables false
set_option linter.unusedSimpArgs false
open Go Go.RowKit Px
open Lx (Tok)
theorem klE {α:Type} (l:List α):(Int.ofNat l.length==0)=l.isEmpty:=by
 cases l with
 | nil=>rfl
 | cons a r=>exact beq_eq_false_iff_ne.2 (by simp only [List.length_cons,Int.ofNat_eq_natCast];omega)
theorem kqx:∀ (d:Nat),d<=40->∀ t:T,LenT t->Cal 82 [tV t,V.one (iX (Int.ofNat d))] [] (YB (ka8 d t))
 | 0,_,.mk k l,hl=>by
  refine ky6 _ _ _ ?_
  simp only [ky5]
  refine Ev.yes rfl (Ev.rb ?_)
  rw [ka8]
 | d+1,hd,.mk k l,hl=>by
  refine ky6 _ _ _ ?_
  simp only [ky5]
  refine Ev.no (decide_eq_false (by simp only [Int.ofNat_eq_natCast];omega)) ?_
  rw [LenT] at hl
  have hw:IntKind.wrap .i64 (Int.ofNat (d+1) - 1)=Int.ofNat d:=by
   rw [wrap_in _ (by simp only [Int.ofNat_eq_natCast];omega) (by simp only [Int.ofNat_eq_natCast];omega)]
   simp only [Int.ofNat_eq_natCast];omega
  have one:∀ x∈l,Cal 109 [tV x,V.one (X.ptr 0 0)] [([Lf.int IntKind.i64],[iX (Int.ofNat (d+1))])] (Out.mk true (V.one (bX (!ka8 d x))) D.junk [[iX (Int.ofNat (d+1))]] 0):=fun x hx=>by
   refine kBS _ _ _ ?_
   simp only [kBR]
   rw [hw]
   exact v_oB (kqx d (by omega) x (kkp hl.2 x hx)) (Ev.ret _)
  have loop:∀ (z i:Nat),i<=l.length->l.length - i=z->∃ v:Int,Ev (fun m k' y=>koq m (Ak k') y (Int.ofNat (d+1)) (T.rows l) (Int.ofNat l.length) (Int.ofNat i) (Int.ofNat (d+1))) (Out.mk true (V.one (iX v)) D.junk [[iX (Int.ofNat (d+1))]] 0)∧decide (v ≥ 0)=!((l.drop i).all (ka8 d)):=by
   intro z
   induction z with
   | zero =>
    intro i hi hz
    rw [List.drop_eq_nil_of_le (by omega)]
    refine ⟨-1,Ev.step ?_,rfl⟩
    simp only [kh2]
    exact Ev.no (kba i _ (by omega)) (Ev.of fun m k n=>by rw [ksM])
   | succ z ih =>
    intro i hi hz
    have hlt:i < l.length:=by omega
    rw [kfi _ _ _ hlt]
    cases hn:ka8 d l[i] with
    | false =>
     refine ⟨Int.ofNat i,Ev.step ?_,by simp⟩
     simp only [kh2]
     refine Ev.yes (kaz i _ hlt) ?_
     simp only [kle,tn,T.rows_at l i hlt,T.row_eq,T.rows_len]
     refine Ev.yes (kak i _ hlt) (kse (one _ (List.getElem_mem hlt)) ?_)
     rw [hn]
     exact Ev.yes rfl (Ev.ret _)
    | true =>
     obtain ⟨v,hv,hd'⟩:=ih (i+1) (by omega) (by omega)
     refine ⟨v,Ev.step ?_,by rw [hd',Bool.true_and]⟩
     simp only [kh2]
     refine Ev.yes (kaz i _ hlt) ?_
     simp only [kle,tn,T.rows_at l i hlt,T.row_eq,T.rows_len]
     refine Ev.yes (kak i _ hlt) (kse (one _ (List.getElem_mem hlt)) ?_)
     rw [hn]
     refine Ev.no rfl ?_
     simp only [ksN,kap i (show i < 9223372036854775807 by omega)]
     exact hv
  have any:Cal 108 [V.one (X.d (D.list 2 (T.rows l))),V.one (X.fn 109 [X.ptr 0 0])] [([Lf.int IntKind.i64],[iX (Int.ofNat (d+1))])] (Out.mk true (V.one (bX (!(l.all (ka8 d))))) D.junk [[iX (Int.ofNat (d+1))]] 0):=by
   obtain ⟨v,hv,hd'⟩:=loop _ 0 (Nat.zero_le _) rfl
   refine kmr _ _ ?_
   simp only [kmp]
   refine kFm (y0:=v) (y1:=Int.ofNat (d+1)) ?_ ?_
   · refine kms _ _ ?_
     simp only [kmq,T.rows_len]
     exact Ev.diag hv
   · refine Ev.of fun m k n=>?_
     rw [hd',List.drop_zero]
  have last:Ev (fun _ k' m=>kpO (Ak k') m k (T.rows l) (Int.ofNat (d+1))) (YB (l.all (ka8 d))):=by
   simp only [kvK]
   refine kse any (Ev.rb (by rw [Bool.not_not]))
  rw [ka8,khn]
  show Ev (fun _ k' m=>kBO (Ak k') m k (T.rows l) (Int.ofNat (d+1))) _
  simp only [kvI,kvJ,klB,T.rows_len]
  have two:∀ b:Bool,b=decide (k=1∨k=2)->Ev (fun _ k' m=>bif b then some (Out.mk true (V.one (X.d (D.bool (Int.ofNat l.length==0)))) D.junk [] 0) else bif decide (k=3) then bif decide (Int.ofNat l.length < 2) then some (Out.mk true (V.one (X.d (D.bool false))) D.junk [] 0) else bif decide (Int.ofNat l.length > 4) then some (Out.mk true (V.one (X.d (D.bool false))) D.junk [] 0) else kpO (Ak k') m k (T.rows l) (Int.ofNat (d+1)) else bif decide (k=4) then bif Int.ofNat l.length != 1 then some (Out.mk true (V.one (X.d (D.bool false))) D.junk [] 0) else kpO (Ak k') m k (T.rows l) (Int.ofNat (d+1)) else some (Out.mk true (V.one (X.d (D.bool false))) D.junk [] 0))
   (YB ((if k=1∨k=2 then l.isEmpty else if k=3 then decide (2<=l.length)&&decide (l.length<=4) else if k=4 then decide (l.length=1) else false)&&l.all (ka8 d))):=fun b hb=>by
   subst hb
   refine Ev.ifb (fun h=>?_) (fun h=>?_)
   · rw [if_pos (of_decide_eq_true h)]
     refine Ev.rb ?_
     rw [klE]
     cases l with
     | nil=>rfl
     | cons a r=>rfl
   · rw [if_neg (of_decide_eq_false h)]
     refine Ev.ifb (fun h3=>?_) (fun h3=>?_)
     · rw [if_pos (of_decide_eq_true h3)]
       refine Ev.ifb (fun h4=>Ev.rb ?_) (fun h4=>Ev.ifb (fun h5=>Ev.rb ?_) (fun h5=>?_))
       · have h4:=of_decide_eq_true h4
         simp only [Int.ofNat_eq_natCast] at h4
         rw [decide_eq_false (by omega:¬ 2<=l.length)];rfl
       · have h5:=of_decide_eq_true h5
         simp only [Int.ofNat_eq_natCast] at h5
         rw [decide_eq_false (by omega:¬ l.length<=4),Bool.and_false];rfl
       · have h4:=of_decide_eq_false h4
         have h5:=of_decide_eq_false h5
         simp only [Int.ofNat_eq_natCast] at h4 h5
         rw [decide_eq_true (by omega:l.length<=4),decide_eq_true (by omega:2<=l.length)]
         exact last
     · rw [if_neg (of_decide_eq_false h3)]
       refine Ev.ifb (fun h4=>?_) (fun h4=>?_)
       · rw [if_pos (of_decide_eq_true h4)]
         refine Ev.ifb (fun h5=>Ev.rb ?_) (fun h5=>?_)
         · have h5:¬ l.length=1:=fun e=>by rw [e] at h5;cases h5
           rw [decide_eq_false h5];rfl
         · have h5:Int.ofNat l.length=1:=by simpa using h5
           simp only [Int.ofNat_eq_natCast] at h5
           rw [decide_eq_true (by omega:l.length=1)]
           exact last
       · rw [if_neg (of_decide_eq_false h4)]
         exact Ev.rb rfl
  refine Ev.ifb (fun h=>?_) (fun h=>?_)
  · exact two _ (by have:=of_decide_eq_true h;rw [h,decide_eq_true (Or.inl this)])
  · exact two _ (by have:=of_decide_eq_false h;exact decide_eq_decide.2 ⟨Or.inr,fun o=>o.resolve_left this⟩)
theorem khq (t:T) (hl:LenT t):Cal 36 [tV t] [] (YB (ka8 40 t)):=by
 refine kF0 _ _ ?_
 simp only [kFY]
 exact v_oB (kqx 40 (Nat.le_refl _) t hl) (Ev.ret _)
theorem drows' (s:Nat) (r:List (List D)):D.rows (D.list s r)=r:=rfl
theorem kqy (f:Fld) (h:LenT f.typ):Cal 34 [fdV f] [] (YB (kbu f)):=by
 refine kFQ _ _ _ _ _ ?_
 simp only [kFK]
 refine v_oB (km7 f.name) ?_
 unfold kbu
 cases kaA f.name with
 | false=>exact Ev.no rfl (Ev.rb rfl)
 | true =>
  refine Ev.yes rfl (v_oB (khq f.typ h) (Ev.rb ?_))
  rw [Bool.true_and]
theorem kjg {α:Type} (f:α->Bool) (a:List α) (z:Bool) {F:Nat->Nat->Nat->Nat->Option Out}
 (hend:Ev (fun m k n=>F (m+1) k n a.length) (YB z))
 (hstep:∀ i (h:i < a.length),∀ r:Bool,Ev (fun m k n=>F m k n (i+1)) (YB r)->Ev (fun m k n=>F (m+1) k n i) (YB (f a[i]&&r))) :
 ∀ d i,i<=a.length->a.length - i=d->Ev (fun m k n=>F m k n i) (YB ((a.drop i).all f&&z)):=by
 intro d
 induction d with
 | zero =>
  intro i hi hd
  obtain rfl:i=a.length:=by omega
  rw [List.drop_eq_nil_of_le (Nat.le_refl _)]
  exact Ev.step hend
 | succ d ih =>
  intro i hi hd
  have hlt:i < a.length:=by omega
  rw [kfi _ _ _ hlt,Bool.and_assoc]
  exact Ev.step (hstep i hlt _ (ih (i+1) (by omega) (by omega)))
theorem Ev.shift {F:Nat->Nat->Nat->Option Out} {o:Out} (c:Nat) (h:Ev F o):Ev (fun m k n=>F (m+c) k n) o:=by
 obtain ⟨K,hK⟩:=h
 exact ⟨K,fun m k n h1 h2 h3=>hK (m+c) k n (by omega) h2 h3⟩
theorem kjh (p:Pg) (h:LenP p):Cal 11 [pV p] [] (YB (kbT p)):=by
 refine kFO _ _ _ _ _ _ _ _ _ _ ?_
 simp only [kFI,Fld.rows_len]
 have hin:=h.inl
 have hfl:=h.fl
 have last:Ev (fun _ k n=>kBF (Ak k) n (Fld.rows p.inputs) (Fnc.rows p.funs) p.query.k p.query.n (bx p.query.name) (strs p.query.names) (ints p.query.odds) (E.rows p.query.kids) p.query.line p.query.col) (YB (kaH 40 p.query)):=by
  simp only [kvk]
  exact v_oB (keS p.query h.query) (Ev.ret _)
 have pars:∀ (g:Fnc) (i:Nat) (z:Bool),LenFn g->Ev (fun m k n=>kBI (Ak k) m n (Fnc.rows p.funs) (Int.ofNat p.funs.length) (Int.ofNat i) (Fld.rows p.inputs) (Fnc.rows p.funs) p.query.k p.query.n (bx p.query.name) (strs p.query.names) (ints p.query.odds) (E.rows p.query.kids) p.query.line p.query.col (D.str (bx g.name)) (D.list 5 (Fld.rows g.params)) (D.int .i64 g.res.k) (D.list 2 (T.rows g.res.l)) (D.int .i64 g.body.k) (D.int .i64 g.body.n) (D.str (bx g.body.name)) (D.list 1 (strs g.body.names)) (D.list 1 (ints g.body.odds)) (D.list 8 (E.rows g.body.kids)) (D.int .i64 g.body.line) (D.int .i64 g.body.col) (D.int .i64 g.line) (D.int .i64 g.col)) (YB z) ->
  Ev (fun m k n=>ksG m (Ak k) m n (Fnc.rows p.funs) (Int.ofNat p.funs.length) (Int.ofNat i) (D.list 5 (Fld.rows g.params)) (Int.ofNat g.params.length) 0 (Fld.rows p.inputs) (Fnc.rows p.funs) p.query.k p.query.n (bx p.query.name) (strs p.query.names) (ints p.query.odds) (E.rows p.query.kids) p.query.line p.query.col (D.str (bx g.name)) (D.list 5 (Fld.rows g.params)) (D.int .i64 g.res.k) (D.list 2 (T.rows g.res.l)) (D.int .i64 g.body.k) (D.int .i64 g.body.n) (D.str (bx g.body.name)) (D.list 1 (strs g.body.names)) (D.list 1 (ints g.body.odds)) (D.list 8 (E.rows g.body.kids)) (D.int .i64 g.body.line) (D.int .i64 g.body.col) (D.int .i64 g.line) (D.int .i64 g.col)) (YB (g.params.all kbu&&z)):=fun g i z hg hz=>by
  have hp:=hg.par
  have key:=kjg kbu g.params z (F:=fun m k n j=>ksG m (Ak k) (m+j) n (Fnc.rows p.funs) (Int.ofNat p.funs.length) (Int.ofNat i) (D.list 5 (Fld.rows g.params)) (Int.ofNat g.params.length) (Int.ofNat j) (Fld.rows p.inputs) (Fnc.rows p.funs) p.query.k p.query.n (bx p.query.name) (strs p.query.names) (ints p.query.odds) (E.rows p.query.kids) p.query.line p.query.col (D.str (bx g.name)) (D.list 5 (Fld.rows g.params)) (D.int .i64 g.res.k) (D.list 2 (T.rows g.res.l)) (D.int .i64 g.body.k) (D.int .i64 g.body.n) (D.str (bx g.body.name)) (D.list 1 (strs g.body.names)) (D.list 1 (ints g.body.odds)) (D.list 8 (E.rows g.body.kids)) (D.int .i64 g.body.line) (D.int .i64 g.body.col) (D.int .i64 g.line) (D.int .i64 g.col)) (by
   simp only [kom]
   exact Ev.no (kba _ _ (Nat.le_refl _)) (Ev.of_eq (fun m k n=>by rw [Nat.add_assoc m 1]) (hz.shift (1+g.params.length)))) (fun j hj r hr=>by
   simp only [kom]
   refine Ev.yes (kaz j _ hj) ?_
   simp only [kvo,tn,drows',Fld.rows_at g.params j hj,Fld.row_eq,Fld.rows_len,List.getD_cons_succ,List.getD_cons_zero]
   refine Ev.yes rfl (Ev.yes (kak j _ hj) (v_oB (kqy g.params[j] (hg.typ _ (List.getElem_mem hj))) ?_))
   cases kbu g.params[j] with
   | false=>exact Ev.yes rfl (Ev.rb rfl)
   | true =>
    refine Ev.no rfl ?_
    simp only [kvu,kap j (show j < 9223372036854775807 by omega)]
    exact Ev.of_eq (fun m k n=>by rw [Nat.add_assoc m 1 j,Nat.add_comm 1 j]) hr) _ 0 (Nat.zero_le _) rfl
  exact key
 have funs:=kjg kby p.funs (kaH 40 p.query) (F:=fun m k n i=>kva m (Ak k) n (Fnc.rows p.funs) (Int.ofNat p.funs.length) (Int.ofNat i) (Fld.rows p.inputs) (Fnc.rows p.funs) p.query.k p.query.n (bx p.query.name) (strs p.query.names) (ints p.query.odds) (E.rows p.query.kids) p.query.line p.query.col) (by
  simp only [kol]
  exact Ev.no (kba _ _ (Nat.le_refl _)) last) (fun i hi r hr=>by
  simp only [kol]
  refine Ev.yes (kaz i _ hi) ?_
  have hg:=h.fn _ (List.getElem_mem hi)
  have hgg:kby p.funs[i]=(p.funs[i].params.all kbu&&(kaA p.funs[i].name&&(ka8 40 p.funs[i].res&&kaH 40 p.funs[i].body))):=by unfold kby;rw [Bool.and_assoc,Bool.and_assoc]
  rw [hgg,Bool.and_assoc]
  simp only [kvj,tn,Fnc.rows_at p.funs i hi,Fnc.row_eq,List.getD_cons_succ,List.getD_cons_zero,Fnc.rows_len,drows',Fld.rows_len]
  refine Ev.yes (kak i _ hi) (Ev.yes rfl ?_)
  refine pars p.funs[i] i _ hg ?_
  simp only [kvp]
  refine v_oB (km7 p.funs[i].name) ?_
  cases kaA p.funs[i].name with
  | false=>exact Ev.yes rfl (Ev.rb rfl)
  | true =>
   refine Ev.no rfl (v_oB (khq p.funs[i].res hg.res) ?_)
   cases ka8 40 p.funs[i].res with
   | false=>exact Ev.yes rfl (Ev.rb rfl)
   | true =>
    refine Ev.no rfl (v_oB (keS p.funs[i].body hg.body) ?_)
    cases kaH 40 p.funs[i].body with
    | false=>exact Ev.yes rfl (Ev.rb rfl)
    | true =>
     refine Ev.no rfl ?_
     simp only [kvv,kap i (show i < 9223372036854775807 by omega)]
     exact hr) _ 0 (Nat.zero_le _) rfl
 have ins:=kjg kbu p.inputs (p.funs.all kby&&kaH 40 p.query) (F:=fun m k n i=>ku9 m (Ak k) n (Fld.rows p.inputs) (Int.ofNat p.inputs.length) (Int.ofNat i) (Fld.rows p.inputs) (Fnc.rows p.funs) p.query.k p.query.n (bx p.query.name) (strs p.query.names) (ints p.query.odds) (E.rows p.query.kids) p.query.line p.query.col) (by
  simp only [kok]
  refine Ev.no (kba _ _ (Nat.le_refl _)) ?_
  simp only [kvh,Fnc.rows_len]
  exact Ev.diag' funs) (fun i hi r hr=>by
  simp only [kok]
  refine Ev.yes (kaz i _ hi) ?_
  simp only [kvg,tn,Fld.rows_at p.inputs i hi,Fld.row_eq,Fld.rows_len,List.getD_cons_succ,List.getD_cons_zero]
  refine Ev.yes (kak i _ hi) (v_oB (kqy p.inputs[i] (h.inp _ (List.getElem_mem hi))) ?_)
  cases kbu p.inputs[i] with
  | false=>exact Ev.yes rfl (Ev.rb rfl)
  | true =>
   refine Ev.no rfl ?_
   simp only [kvi,kap i (show i < 9223372036854775807 by omega)]
   exact hr) _ 0 (Nat.zero_le _) rfl
 rw [List.drop_zero,<- Bool.and_assoc] at ins
 exact Ev.diag ins
theorem lit (l:List UInt8):ByteArray.mk l.toArray=bx l:=rfl
theorem klF {a b:Nat} (h:a<=b):Nat.ble a b=true:=Nat.ble_eq_true_of_le h
abbrev YS (s:List UInt8):Out:=RV (V.one (sX s))
theorem Ev.rs {b:ByteArray} {s:List UInt8} (e:b=bx s):Ev (fun _ _ _=>some (Out.mk true (V.one (X.d (D.str b))) D.junk [] 0)) (YS s):=e▸Ev.ret _
theorem klG:∀ (k u:Nat),u < 10 ^ (k+1)->(Go.Lib.decDigits u).length<=k+1
 | 0,u,h=>by rw [Go.Lib.decDigits_one (by omega)];simp
 | k+1,u,h=>by
  by_cases h10:u < 10
  · rw [Go.Lib.decDigits_one h10];simp
  · rw [kfa h10,List.length_append]
    have:=klG k (u / 10) (by rw [Nat.pow_succ] at h;omega)
    simp only [List.length_cons,List.length_nil]
    omega
theorem kaP {n:Int} (h0:-2147483647<=n) (h1:n<=2147483647):(Go.Lib.itoa n).length<=12:=by
 by_cases h:n < 0
 · rw [kgH h,List.length_cons]
   have:=klG 9 n.natAbs (by omega)
   omega
 · rw [kfb (by omega)]
   have:=klG 9 n.toNat (by omega)
   omega
theorem kcO {lo o:Int} (h:inO lo o=true):lo<=o∧o<=2147483647:=by
 unfold inO at h
 simpa using h
def tl (i:Nat) (l:List (List UInt8)):List UInt8:=if i=0 then cms l else cmr l
def sep (i:Nat):List UInt8:=if i=0 then [] else [44,32]
theorem kqz (i:Nat) (x:List UInt8) (r:List (List UInt8)):tl i (x :: r)=sep i++x++tl (i+1) r:=by
 unfold tl sep
 by_cases h:i=0
 · rw [if_pos h,if_pos h,if_neg (by omega)];rfl
 · rw [if_neg h,if_neg h,if_neg (by omega)];rfl
theorem kxZ (i:Nat):tl i []=[]:=by unfold tl;split<;>rfl
end Go.Proofs.YtaphnbaiamnfpaaGreatDoor.Ps
namespace Go.Proofs.YtaphnbaiamnfpaaGreatDoor.Ps
set_option linter.unusedVariables false
set_option linter.unusedSimpArgs false
set_option maxRecDepth 4000
open Go Go.RowKit Px
open Lx (Tok)
section
variable (a b:Int)
theorem kna:∀ (os:List Int) (ks:List E) (i:Nat) (h:i < os.length) (h2:i < ks.length),tPk (os.drop i) (ks.drop i)=(Go.Lib.itoa os[i]++[58,32]++tE ks[i]) :: tPk (os.drop (i+1)) (ks.drop (i+1)):=fun os ks i h h2=>by
 rw [List.drop_eq_getElem_cons h,List.drop_eq_getElem_cons h2,tPk]
end
theorem kz8:∀ (l:List (List UInt8)) (x:List UInt8),x∈l->x.length<=(cms l).length
 | y :: r,x,h=>by
  have hr:∀ (r:List (List UInt8)),x∈r->x.length<=(cmr r).length:=fun r=>by
   induction r with
   | nil=>intro h;cases h
   | cons z q ih =>
    intro h
    rw [cmr,List.length_append,List.length_append]
    rcases List.mem_cons.1 h with rfl | h
    · omega
    · have:=ih h;omega
  rw [cms,List.length_append]
  rcases List.mem_cons.1 h with rfl | h
  · omega
  · have:=hr r h;omega
theorem khr {l:List E} (h:l.length=1):∃ x,l=[x]:=List.length_eq_one_iff.1 h
theorem kfU:∀ {l:List E},l.length=2->∃ x y,l=[x,y]
 | [x,y],_=>⟨x,y,rfl⟩
theorem kdk:∀ {l:List E},l.length=3->∃ x y z,l=[x,y,z]
 | [x,y,z],_=>⟨x,y,z,rfl⟩
theorem kcb {l:List E} (h:l.length=0):l=[]:=List.eq_nil_of_length_eq_zero h
end Go.Proofs.YtaphnbaiamnfpaaGreatDoor.Ps
namespace Go.Proofs.YtaphnbaiamnfpaaGreatDoor.Ps
set_option linter.unusedVariables false
set_option linter.unusedSimpArgs false
open Go Go.RowKit Px
open Lx (Tok)
def W (a s b:List UInt8):Prop:=(20000 < a.length∧b=a)∨(a.length<=20000∧∃ t,b=a++t∧(∃ r,s=t++r∧(r=[]∨20000 < b.length)))
theorem W.nil (a:List UInt8):W a [] a:=by
 by_cases h:20000 < a.length
 · exact .inl ⟨h,rfl⟩
 · exact .inr ⟨by omega,[],by simp,[],rfl,.inl rfl⟩
theorem W.full {a s:List UInt8} (h:20000 < a.length):W a s a:=.inl ⟨h,rfl⟩
theorem W.app {a s:List UInt8} (h:a.length<=20000):W a s (a++s):=.inr ⟨h,s,rfl,[],by simp,.inl rfl⟩
theorem W.seq {a s b t c:List UInt8} (h:W a s b) (h2:W b t c):W a (s++t) c:=by
 rcases h with ⟨h,rfl⟩ | ⟨h,u,rfl,r,rfl,hr⟩
 · rcases h2 with ⟨h2,rfl⟩ | ⟨h2,_⟩
   · exact .inl ⟨h,rfl⟩
   · omega
 · rcases h2 with ⟨h2,rfl⟩ | ⟨h2,v,rfl,q,rfl,hq⟩
   · exact .inr ⟨h,u,rfl,r++t,by simp,.inr h2⟩
   · rcases hr with rfl | hr
     · refine .inr ⟨h,u++v,by simp,q,by simp,?_⟩
       rcases hq with rfl | hq
       · exact .inl rfl
       · exact .inr hq
     · omega
theorem W.done {s b:List UInt8} (h:W [] s b):(b.length<=20000->b=s)∧(20000 < b.length->20000 < s.length):=by
 rcases h with ⟨h,_⟩ | ⟨_,t,rfl,r,rfl,hr⟩
 · simp at h
 · refine ⟨fun h=>?_,fun h=>?_⟩
   · rcases hr with rfl | hr
     · simp
     · omega
   · rw [List.length_append];omega
abbrev BR (a:List UInt8):List (List Lf × List X):=[([Lf.slf,Lf.own 5 1],[X.slf 0,X.own 0 5 1 (kay a)])]
abbrev OB (b:List UInt8):Out:=Out.mk true (V.tup []) D.junk [[X.slf 0,X.own 0 5 1 (kay b)]] 1
def Wg (a s:List UInt8) (F:Nat->Nat->Nat->Option Out):Prop:=∃ b,W a s b∧Ev F (OB b)
theorem Wg.ret (a:List UInt8):Wg a [] (fun _ _ _=>some (Out.mk true (V.tup []) D.junk [[X.slf 0,X.own 0 5 1 (kay a)]] 1)):=⟨a,.nil a,Ev.ret _⟩
theorem Wg.cast {a s s':List UInt8} {F:Nat->Nat->Nat->Option Out} (h:Wg a s F) (e:s=s'):Wg a s' F:=e▸h
theorem Wg.seq {x:Nat->Option Out} {K:Nat->Nat->Nat->List (List D)->Option Out} {P:Nat->Nat->Nat->D->List (List D)->Option Out} {a s t:List UInt8} (h:Wg a s (fun _ k _=>x k)) (h2:∀ b,Wg b t (fun m k n=>K m k n (kay b))) :
 Wg a (s++t) (fun m k n=>kab (x k) (K m k n) (P m k n)):=by
 obtain ⟨b,hb,he⟩:=h
 obtain ⟨c,hc,he2⟩:=h2 b
 exact ⟨c,hb.seq hc,kbE he he2⟩
theorem Wg.str {x:Nat->Option Out} {K:Nat->Nat->Nat->ByteArray->Option Out} {P:Nat->Nat->Nat->D->Option Out} {a s u:List UInt8} (h:Ev (fun _ k _=>x k) (YS u)) (h2:Wg a s (fun m k n=>K m k n (bx u))) :
 Wg a s (fun m k n=>r_oS (x k) (K m k n) (P m k n)):=by
 obtain ⟨c,hc,he2⟩:=h2
 exact ⟨c,hc,v_oS h he2⟩
theorem Wg.int {x:Nat->Option Out} {K:Nat->Nat->Nat->Int->Option Out} {P:Nat->Nat->Nat->D->Option Out} {a s:List UInt8} {u:Int} (h:Ev (fun _ k _=>x k) (RV (V.one (iX u)))) (h2:Wg a s (fun m k n=>K m k n u)) :
 Wg a s (fun m k n=>r_oI (x k) (K m k n) (P m k n)):=by
 obtain ⟨c,hc,he2⟩:=h2
 exact ⟨c,hc,v_oI h he2⟩
theorem Wg.yes {c:Bool} {F G:Nat->Nat->Nat->Option Out} {a s:List UInt8} (hc:c=true) (h:Wg a s F):Wg a s (fun m k n=>bif c then F m k n else G m k n):=by subst hc;exact h
theorem Wg.no {c:Bool} {F G:Nat->Nat->Nat->Option Out} {a s:List UInt8} (hc:c=false) (h:Wg a s G):Wg a s (fun m k n=>bif c then F m k n else G m k n):=by subst hc;exact h
theorem Wg.step {F:Nat->Nat->Nat->Option Out} {a s:List UInt8} (h:Wg a s (fun m k n=>F (m+1) k n)):Wg a s F:=by
 obtain ⟨b,hb,he⟩:=h
 exact ⟨b,hb,Ev.step he⟩
theorem Wg.diag {F:Nat->Nat->Nat->Option Out} {a s:List UInt8} (h:Wg a s F):Wg a s (fun _ k n=>F n k n):=by
 obtain ⟨b,hb,he⟩:=h
 exact ⟨b,hb,Ev.diag' he⟩
theorem kir (a:List UInt8):Cal 52 [V.one (X.ptr 0 0)] (BR a) (Out.mk true (V.one (X.d (D.int IntKind.i64 (Int.ofNat a.length)))) D.junk [[X.slf 0,X.own 0 5 1 (kay a)]] 1):=by
 refine kGq _ (Ev.of fun m k n=>?_)
 rw [kGg,kep]
theorem kx0 (a s:List UInt8) (h:a.length+s.length<=140737488355328):Cal 53 [V.one (X.ptr 0 0),V.one (sX s)] (BR a) (Out.mk true (V.tup [V.one (X.d (D.int IntKind.i64 (Int.ofNat s.length))),V.one (X.d D.nilI)]) D.junk [[X.slf 0,X.own 0 5 1 (kay (a++s))]] 1):=by
 refine ⟨1,fun m k n h1 h2 h3=>?_⟩
 obtain ⟨k,rfl⟩:∃ k',k=k'+1:=⟨k - 1,by omega⟩
 refine (kdj (by kernel_rfl)).trans ?_
 show cond (Nat.ble ((kay a).length+(bx s).size) 140737488355328) (some (Out.mk true (V.tup [V.one (X.d (D.int .i64 (bx s).size)),V.one (X.d D.nilI)]) D.junk [[X.slf 0,X.own 0 5 1 (kay a++kay (bx s).data.toList)]] 1)) none=_
 rw [kep,kau,kbz,<- kpF,klF h]
 rfl
def Brief:List (List UInt8)->Prop
 | []=>True
 | x :: r=>x.length<=1000000∧Brief r
def puts (a:List UInt8):List (List UInt8)->List UInt8
 | []=>a
 | x :: r=>puts (if a.length<=20000 then a++x else a) r
theorem knb:∀ (l:List (List UInt8)) (a:List UInt8),W a l.flatten (puts a l)
 | [],a=>.nil a
 | x :: r,a=>by
  rw [List.flatten_cons,puts]
  by_cases h:a.length<=20000
  · rw [if_pos h];exact (W.app h).seq (knb r _)
  · rw [if_neg h];exact (W.full (by omega)).seq (knb r _)
theorem kji:∀ {l:List (List UInt8)} (i:Nat) (h:i < l.length),Brief l->l[i].length<=1000000
 | x :: r,0,_,h=>h.1
 | x :: r,i+1,hi,h=>kji (l:=r) i (by simpa using hi) h.2
theorem kaB (l:List (List UInt8)) (a:List UInt8) (hb:Brief l) (hl:l.length<=1000000):Wg a l.flatten (fun _ k _=>Ak k false 22 [V.one (X.ptr 0 0),V.one (X.d (D.list 1 (strs l)))] (BR a)):=by
 refine ⟨_,knb l a,kGp _ _ ?_⟩
 simp only [kGf,kbA]
 have key:∀ (d i:Nat) (c:List UInt8),i<=l.length->l.length - i=d->Ev (fun m k _=>kvL m (Ak k) (kay a) (strs l) (Int.ofNat l.length) (Int.ofNat i) (kay c)) (OB (puts c (l.drop i))):=by
  intro d
  induction d with
  | zero =>
   intro i c hi hd
   rw [List.drop_eq_nil_of_le (by omega)]
   refine Ev.step ?_
   simp only [kow]
   exact Ev.no (kba i _ (by omega)) (Ev.ret _)
  | succ d ih =>
   intro i c hi hd
   have hlt:i < l.length:=by omega
   rw [List.drop_eq_getElem_cons hlt,puts]
   refine Ev.step ?_
   simp only [kow]
   refine Ev.yes (kaz i _ hlt) ?_
   have hat:=kjd l i hlt
   unfold dat at hat
   simp only [kvX,tn,hat,kbA]
   refine Ev.yes (kak i _ hlt) (kcq (kir c) ?_)
   have hx:=kji i hlt hb
   by_cases h:c.length<=20000
   · rw [if_pos h]
     refine Ev.yes (decide_eq_true (by simp only [Int.ofNat_eq_natCast];omega)) (keK (kx0 c l[i] (by omega)) ?_)
     simp only [koy,kap i (show i < 9223372036854775807 by omega)]
     exact ih (i+1) _ (by omega) (by omega)
   · rw [if_neg h]
     refine Ev.no (decide_eq_false (by simp only [Int.ofNat_eq_natCast];omega)) ?_
     simp only [koy,kap i (show i < 9223372036854775807 by omega)]
     exact ih (i+1) _ (by omega) (by omega)
 exact Ev.diag' (key _ 0 a (Nat.zero_le _) rfl)
theorem kb8 (l:List (List UInt8)) (a:List UInt8) (hb:Brief l) (hl:l.length<=1000000):Wg a l.flatten (fun _ k _=>Ak k true 22 [V.one (X.ptr 0 0),V.one (X.d (D.list 1 (strs l)))] (BR a)):=by
 refine ⟨_,knb l a,kB7 _ _ ?_⟩
 simp only [kGi,kbA]
 have key:∀ (d i:Nat) (c:List UInt8),i<=l.length->l.length - i=d->Ev (fun m k _=>kgW m (Ak k) (kay a) (strs l) (Int.ofNat l.length) (Int.ofNat i) (kay c)) (OB (puts c (l.drop i))):=by
  intro d
  induction d with
  | zero =>
   intro i c hi hd
   rw [List.drop_eq_nil_of_le (by omega)]
   refine Ev.step ?_
   simp only [kh4]
   exact Ev.no (kba i _ (by omega)) (Ev.ret _)
  | succ d ih =>
   intro i c hi hd
   have hlt:i < l.length:=by omega
   rw [List.drop_eq_getElem_cons hlt,puts]
   refine Ev.step ?_
   simp only [kh4]
   refine Ev.yes (kaz i _ hlt) ?_
   have hat:=kjd l i hlt
   unfold dat at hat
   simp only [kmx,tn,hat,kbA]
   refine Ev.yes (kak i _ hlt) (kcq (kir c) ?_)
   have hx:=kji i hlt hb
   by_cases h:c.length<=20000
   · rw [if_pos h]
     refine Ev.yes (decide_eq_true (by simp only [Int.ofNat_eq_natCast];omega)) (keK (kx0 c l[i] (by omega)) ?_)
     simp only [kh5,kap i (show i < 9223372036854775807 by omega)]
     exact ih (i+1) _ (by omega) (by omega)
   · rw [if_neg h]
     refine Ev.no (decide_eq_false (by simp only [Int.ofNat_eq_natCast];omega)) ?_
     simp only [kh5,kap i (show i < 9223372036854775807 by omega)]
     exact ih (i+1) _ (by omega) (by omega)
 exact Ev.diag' (key _ 0 a (Nat.zero_le _) rfl)
theorem kDi (e:E):Cal 55 [eV e] [] (RV (V.one (iX (Int.ofNat e.rk)))):=by
 refine kGr _ _ _ _ _ _ _ _ ?_
 simp only [kGh,kvY,kv0,klB]
 unfold E.rk rk
 by_cases h7:e.k=7
 · rw [if_pos h7]
   exact Ev.yes (decide_eq_true h7) (v_oI (khl e.name) (Ev.ret _))
 · rw [if_neg h7]
   refine Ev.no (decide_eq_false h7) ?_
   by_cases hh:e.k=8∨e.k=9∨e.k=10∨e.k=11∨e.k=12
   · rw [if_pos hh]
     rcases hh with h | h | h | h | h<;>rw [h]<;>exact Ev.ret _
   · rw [if_neg hh]
     refine Ev.no (decide_eq_false (by omega)) (Ev.no (decide_eq_false (by omega)) (Ev.no (decide_eq_false (by omega)) (Ev.no (decide_eq_false (by omega)) (Ev.no (decide_eq_false (by omega)) (Ev.ret _)))))
theorem C_fb (b:Bool):Cal 57 [V.one (X.d (D.bool b))] [] (YS (if b=true then kgC else kdx)):=by
 refine kGs _ ?_
 simp only [kGj]
 have h:Cal 96 [V.one (X.d (D.bool b))] [] (YS (if b=true then kgC else kdx)):=by
  refine kGu _ ?_
  simp only [kGl,kv4]
  cases b with
  | true=>exact Ev.yes rfl (Ev.ret _)
  | false=>exact Ev.no rfl (Ev.ret _)
 exact v_oS h (Ev.ret _)
theorem kcc (n:Int) (h0:-2147483647<=n) (h1:n<=2147483647):Cal 56 [V.one (iX n)] [] (YS (Go.Lib.itoa n)):=by
 refine ⟨1,fun m k n' _ h2 _=>?_⟩
 obtain ⟨k,rfl⟩:∃ k',k=k'+1:=⟨k - 1,by omega⟩
 refine (kdj (by kernel_rfl)).trans ?_
 show cond (decide (-9223372036854775808<=n)&&decide (n<=9223372036854775807)) _ none=_
 rw [decide_eq_true (by omega),decide_eq_true (by omega)]
 rfl
theorem kgq:∀ l:List (List UInt8),kdq (strs l)=some (l.map bx)
 | []=>rfl
 | x :: r=>by
  show (match D.str (bx x),kdq (strs r) with | .str s,some l=>some (s :: l) | _,_=>none)=_
  rw [kgq r];rfl
theorem kua (l:List (List UInt8)):Go.Lib.join l [44,32]=cms l:=by
 cases l with
 | nil=>rfl
 | cons x r =>
  rw [Go.Lib.join_cons]
  show x++Go.Lib.joinTail [44,32] r=x++cmr r
  congr 1
  unfold Go.Lib.joinTail
  induction r with
  | nil=>rfl
  | cons y q ih=>rw [List.map_cons,List.flatten_cons,ih,cmr]
theorem kqA (ns:List (List UInt8)) (hl:ns.length<=140737488355328) (h2:(cms ns).length<=140737488355328):Cal 54 [V.one (X.d (D.list 1 (strs ns))),V.one (sX [44,32])] [] (YS (cms ns)):=by
 refine ⟨1,fun m k n' _ hk _=>?_⟩
 obtain ⟨k,rfl⟩:∃ k',k=k'+1:=⟨k - 1,by omega⟩
 refine (kdj (by kernel_rfl)).trans ?_
 show (kdq (strs ns)).bind (fun l=>cond (Nat.ble l.length 140737488355328&&Nat.ble (Go.Lib.join (l.map (·.data.toList)) (bx [44,32]).data.toList).length 140737488355328) (some (R (dv (.str (kkT l (bx [44,32])))))) none)=_
 have e:(ns.map bx).map (·.data.toList)=ns:=by
  rw [List.map_map]
  exact (List.map_congr_left (fun x _=>kbz x)).trans (List.map_id ns)
 rw [kgq,Option.bind_some]
 unfold kkT
 rw [e,kbz,kua,List.length_map,klF hl,klF h2]
 rfl
end Go.Proofs.YtaphnbaiamnfpaaGreatDoor.Ps
namespace Go.Proofs.YtaphnbaiamnfpaaGreatDoor.Ps
set_option linter.unusedVariables false
set_option linter.unusedSimpArgs false
set_option maxRecDepth 4000
open Go Go.RowKit Px
open Lx (Tok)
theorem kaQ {s:List UInt8} (h:kaA s=true):s.length<=24:=by
 unfold kaA at h
 simp only [Bool.and_eq_true,decide_eq_true_eq] at h
 exact h.1.2
theorem kax (e:E):tAt 0 e=tE e:=by unfold tAt;rw [if_neg (Nat.not_lt_zero _)]
def Wk (x:E):Prop:=∀ (m:Nat) (c:List UInt8),m<=8->Wg c (tAt m x) (fun _ k _=>Ak k false 24 [V.one (X.ptr 0 0),eV x,V.one (iX (Int.ofNat m))] (BR c))
theorem kfV (ks:List E) (hk:ks.length<=140737488351232) (H:∀ x∈ks,Wk x) (c:List UInt8):Wg c (cms (ks.map tE)) (fun _ k _=>Ak k false 58 [V.one (X.ptr 0 0),V.one (X.d (D.list 8 (E.rows ks)))] (BR c)):=by
 have key:∀ (d i:Nat) (a:List UInt8),i<=ks.length->ks.length - i=d->Wg a (tl i ((ks.drop i).map tE)) (fun m k _=>kvN m (Ak k) (kay c) (E.rows ks) (Int.ofNat ks.length) (Int.ofNat i) (kay a)):=by
  intro d
  induction d with
  | zero =>
   intro i a hi hd
   rw [List.drop_eq_nil_of_le (by omega),List.map_nil,kxZ]
   refine Wg.step ?_
   simp only [koz]
   exact Wg.no (kba i _ (by omega)) (Wg.ret a)
  | succ d ih =>
   intro i a hi hd
   have hlt:i < ks.length:=by omega
   rw [List.drop_eq_getElem_cons hlt,List.map_cons,kqz]
   have nx:=fun a=>ih (i+1) a (by omega) (by omega)
   refine Wg.step ?_
   simp only [koz]
   refine Wg.yes (kaz i _ hlt) ?_
   simp only [kv5,tn,E.rows_at ks i hlt,E.row_eq,E.rows_len]
   refine Wg.yes (kak i _ hlt) ?_
   have mid:∀ a,Wg a (tE ks[i]++tl (i+1) ((ks.drop (i+1)).map tE)) (fun m k _=>kvQ (Ak k) m (kay c) (E.rows ks) (Int.ofNat ks.length) (Int.ofNat i) (kay a) (D.int .i64 ks[i].k) (D.int .i64 ks[i].n) (D.str (bx ks[i].name)) (D.list 1 (strs ks[i].names)) (D.list 1 (ints ks[i].odds)) (D.list 8 (E.rows ks[i].kids)) (D.int .i64 ks[i].line) (D.int .i64 ks[i].col)):=fun a=>by
    simp only [kv8]
    have h:=H _ (List.getElem_mem hlt) 0 a (by omega)
    rw [kax] at h
    refine Wg.seq h fun b=>?_
    simp only [kwb,kap i (show i < 9223372036854775807 by omega)]
    exact nx b
   by_cases h0:i=0
   · subst h0
     exact Wg.no rfl ((mid a).cast (by simp [sep]))
   · refine Wg.yes (decide_eq_true (by show (0:Int) < Int.ofNat i;simp only [Int.ofNat_eq_natCast];omega)) ?_
     exact Wg.cast (Wg.seq (kaB [[44,32]] _ ⟨by decide,trivial⟩ (Nat.le_of_ble_eq_true rfl)) mid) (by simp [sep,h0])
 obtain ⟨b,hb,he⟩:=key _ 0 c (Nat.zero_le _) rfl
 refine ⟨b,hb,kGt _ _ ?_⟩
 simp only [kGk,E.rows_len]
 exact Ev.diag' he
section
variable (a b:Int)
theorem kx1 (x:E) (H:Wk x) (c:List UInt8):Wg c (tE (.mk 7 0 wNeg [] [] [x] a b)) (fun _ k _=>Ak k false 59 [V.one (X.ptr 0 0),eV (.mk 7 0 wNeg [] [] [x] a b)] (BR c)):=by
 have key:Wg c (tE (.mk 7 0 wNeg [] [] [x] a b)) (fun _ k n=>e59 (Ak k) n 7 0 (bx wNeg) (strs []) (ints []) (E.rows [x]) a b (kay c)):=by
  simp only [ksS,E.rows_cons,E.rows_nil,List.getD_cons_zero,List.getD_cons_succ,List.length_cons,List.length_nil]
  refine Wg.int (khl wNeg) (Wg.yes rfl ?_)
  exact Wg.cast (Wg.seq (kaB [[45]] _ ⟨by decide,trivial⟩ (Nat.le_of_ble_eq_true rfl)) fun _=>Wg.yes rfl (Wg.seq (H 7 _ (by omega)) fun _=>Wg.ret _)) (by simp [kxL])
 obtain ⟨w,hw,he⟩:=key
 exact ⟨w,hw,ksT _ _ _ _ _ _ _ _ _ he⟩
theorem kx2 (x:E) (H:Wk x) (c:List UInt8):Wg c (tE (.mk 7 0 wNot [] [] [x] a b)) (fun _ k _=>Ak k false 59 [V.one (X.ptr 0 0),eV (.mk 7 0 wNot [] [] [x] a b)] (BR c)):=by
 have key:Wg c (tE (.mk 7 0 wNot [] [] [x] a b)) (fun _ k n=>e59 (Ak k) n 7 0 (bx wNot) (strs []) (ints []) (E.rows [x]) a b (kay c)):=by
  simp only [ksS,E.rows_cons,E.rows_nil,List.getD_cons_zero,List.getD_cons_succ,List.length_cons,List.length_nil]
  refine Wg.int (khl wNot) (Wg.no rfl (Wg.yes rfl ?_))
  exact Wg.cast (Wg.seq (kaB [[110,111,116,32]] _ ⟨by decide,trivial⟩ (Nat.le_of_ble_eq_true rfl)) fun _=>Wg.yes rfl (Wg.seq (H 7 _ (by omega)) fun _=>Wg.ret _)) (by simp [kxM])
 obtain ⟨w,hw,he⟩:=key
 exact ⟨w,hw,ksT _ _ _ _ _ _ _ _ _ he⟩
theorem kqB {s:List UInt8} (h:0 < lvl s):s.length<=1000000:=by
 unfold lvl at h
 repeat' split at h
 all_goals first | (exact absurd h (by decide)) | skip
 all_goals (rename_i hs;first | (subst hs;decide) | (rcases hs with rfl | rfl | rfl<;>decide) | (rcases hs with rfl | rfl<;>decide))
theorem kx3 (s:List UInt8) (x y:E) (h0:0 < lvl s) (h7:lvl s < 7) (H:Wk x) (H2:Wk y) (c:List UInt8):Wg c (tE (.mk 7 0 s [] [] [x,y] a b)) (fun _ k _=>Ak k false 59 [V.one (X.ptr 0 0),eV (.mk 7 0 s [] [] [x,y] a b)] (BR c)):=by
 have fin:∀ (l r:Int) (z:List (List D)),l=Int.ofNat (lft s)->r=Int.ofNat (rgt s)->Wg c (tE (.mk 7 0 s [] [] [x,y] a b)) (fun _ k n=>kvR (Ak k) n z l r (kay c) 7 0 (bx s) (strs []) (ints []) (E.rows [x,y]) a b):=fun l r z hl hr=>by
  subst hl hr
  have hL:lft s<=8:=by unfold lft;split<;>omega
  have hR:rgt s<=8:=by unfold rgt;split<;>omega
  simp only [kv9,E.rows_cons,E.rows_nil,List.getD_cons_zero,List.getD_cons_succ,List.length_cons,List.length_nil]
  exact Wg.cast (Wg.yes rfl (Wg.seq (H (lft s) _ hL) fun _=>Wg.seq (kaB [[32],s,[32]] _ ⟨by decide,kqB h0,by decide,trivial⟩ (Nat.le_of_ble_eq_true rfl)) fun _=>Wg.yes rfl (Wg.seq (H2 (rgt s) _ hR) fun _=>Wg.ret _))) (by simp [kxN a b s x y h7])
 have n1:s ≠ wNeg:=by intro e;subst e;revert h7;decide
 have n2:s ≠ wNot:=by intro e;subst e;revert h7;decide
 have hw:IntKind.wrap .i64 (Int.ofNat (lvl s)+1)=Int.ofNat (lvl s+1):=kap _ (by omega)
 have e3:(Int.ofNat (lvl s)==3)=decide (lvl s=3):=kcx _ 3
 have e4:(Int.ofNat (lvl s)==4)=decide (lvl s=4):=kcx _ 4
 have key:Wg c (tE (.mk 7 0 s [] [] [x,y] a b)) (fun _ k n=>e59 (Ak k) n 7 0 (bx s) (strs []) (ints []) (E.rows [x,y]) a b (kay c)):=by
  simp only [ksS]
  refine Wg.int (khl s) ?_
  refine Wg.no ((bl s wNeg).trans (decide_eq_false n1)) (Wg.no ((bl s wNot).trans (decide_eq_false n2)) ?_)
  simp only [kv1,kv6,e3,e4,hw]
  by_cases h3:lvl s=3
  · refine Wg.yes (decide_eq_true h3) (Wg.no (decide_eq_false (by omega)) (fin _ _ _ ?_ ?_))
    · unfold lft;rw [if_pos (Or.inl h3)]
    · unfold rgt;rw [if_neg (by omega)]
  · refine Wg.no (decide_eq_false h3) ?_
    by_cases h4:lvl s=4
    · refine Wg.yes (decide_eq_true h4) (Wg.yes (decide_eq_true h4) (fin _ _ _ ?_ ?_))
      · unfold lft;rw [if_pos (Or.inr h4)]
      · unfold rgt;rw [if_pos h4];rfl
    · refine Wg.no (decide_eq_false h4) (Wg.no (decide_eq_false h4) (fin _ _ _ ?_ ?_))
      · unfold lft;rw [if_neg (by omega)]
      · unfold rgt;rw [if_neg h4]
 obtain ⟨w,hw,he⟩:=key
 exact ⟨w,hw,ksT _ _ _ _ _ _ _ _ _ he⟩
def pks (i:Nat):List (List UInt8)->List UInt8
 | []=>[]
 | x :: r=>(if i=0 then [112,105,99,107,32,123,32] else [44,32])++x++pks (i+1) r
theorem kqC:∀ (l:List (List UInt8)) (i:Nat),0 < i->pks i l=cmr l
 | [],_,_=>rfl
 | x :: r,i,h=>by rw [pks,cmr,if_neg (by omega),kqC r (i+1) (by omega)]
theorem knc {l:List (List UInt8)} (h:l ≠ []):pks 0 l=[112,105,99,107,32,123,32]++cms l:=by
 cases l with
 | nil=>exact absurd rfl h
 | cons x r=>rw [pks,if_pos rfl,kqC r 1 (by omega),cms,List.append_assoc]
theorem kz9 (os:List Int) (ks:List E) (hk:ks.length=os.length) (hb:ks.length<=140737488351232) (h1:1<=ks.length) (ho:∀ x∈os,inO 0 x=true) (H:∀ x∈ks,Wk x) (c:List UInt8) (z:List (List D)) :
 Wg c (tE (.mk 13 0 [] [] os ks a b)++[41]) (fun _ k n=>ksO n (Ak k) n z (E.rows ks) (Int.ofNat ks.length) 0 (kay c) 13 0 (bx []) (strs []) (ints os) (E.rows ks) a b (strs [[41]])):=by
 have key:∀ (d i:Nat) (c:List UInt8),i<=ks.length->ks.length - i=d->Wg c (pks i (tPk (os.drop i) (ks.drop i))++[32,125]++[41]) (fun m k n=>ksO m (Ak k) n z (E.rows ks) (Int.ofNat ks.length) (Int.ofNat i) (kay c) 13 0 (bx []) (strs []) (ints os) (E.rows ks) a b (strs [[41]])):=by
  intro d
  induction d with
  | zero =>
   intro i c hi hd
   rw [show ks.drop i=[] from List.drop_eq_nil_of_le (by omega),show tPk (os.drop i) []=[] by cases os.drop i<;>rfl,pks]
   refine Wg.step ?_
   simp only [kox]
   refine Wg.no (kba i _ (by omega)) ?_
   simp only [kv3]
   exact Wg.cast (Wg.seq (kaB [[32,125]] _ ⟨by decide,trivial⟩ (Nat.le_of_ble_eq_true rfl)) fun _=>Wg.seq (kb8 [[41]] _ ⟨by decide,trivial⟩ (Nat.le_of_ble_eq_true rfl)) fun _=>Wg.ret _) (by simp)
  | succ d ih =>
   intro i c hi hd
   have hlt:i < ks.length:=by omega
   have hlo:i < os.length:=by omega
   rw [kna os ks i hlo hlt,pks]
   refine Wg.step ?_
   simp only [kox]
   refine Wg.yes (kaz i _ hlt) ?_
   simp only [kv2,tn,E.rows_at ks i hlt,E.row_eq,E.rows_len]
   refine Wg.yes (kak i _ hlt) ?_
   have mid:∀ c,Wg c ((Go.Lib.itoa os[i]++[58,32]++tE ks[i])++(pks (i+1) (tPk (os.drop (i+1)) (ks.drop (i+1)))++[32,125]++[41])) (fun m k n=>kvP (Ak k) m n z (Int.ofNat i) (E.rows ks) (Int.ofNat ks.length) (Int.ofNat i) (kay c) 13 0 (bx []) (strs []) (ints os) (E.rows ks) a b (D.int .i64 ks[i].k) (D.int .i64 ks[i].n) (D.str (bx ks[i].name)) (D.list 1 (strs ks[i].names)) (D.list 1 (ints ks[i].odds)) (D.list 8 (E.rows ks[i].kids)) (D.int .i64 ks[i].line) (D.int .i64 ks[i].col) (strs [[41]])):=fun c=>by
    have hat:=kje os i hlo
    unfold dat at hat
    have hoi:=kcO (ho _ (List.getElem_mem hlo))
    have hi12:=kaP (n:=os[i]) (by omega) hoi.2
    simp only [kv7,tn,hat,kc7]
    refine Wg.yes (kak i _ hlo) (Wg.str (kcc os[i] (by omega) hoi.2) ?_)
    have h:=fun c=>H _ (List.getElem_mem hlt) 0 c (by omega)
    simp only [kax] at h
    refine Wg.cast (Wg.seq (kaB [Go.Lib.itoa os[i],[58,32]] _ ⟨by omega,by decide,trivial⟩ (Nat.le_of_ble_eq_true rfl)) fun _=>Wg.seq (h _) fun e=>(?_:Wg e (pks (i+1) (tPk (os.drop (i+1)) (ks.drop (i+1)))++[32,125]++[41]) _)) (by simp)
    simp only [kwa,kap i (show i < 9223372036854775807 by omega)]
    exact ih (i+1) e (by omega) (by omega)
   have e0:(Int.ofNat i==0)=decide (i=0):=kcx i 0
   rw [e0]
   by_cases h0:i=0
   · refine Wg.yes (decide_eq_true h0) ?_
     exact Wg.cast (Wg.seq (kaB [[112,105,99,107,32,123,32]] _ ⟨by decide,trivial⟩ (Nat.le_of_ble_eq_true rfl)) mid) (by simp [h0])
   · refine Wg.no (decide_eq_false h0) ?_
     exact Wg.cast (Wg.seq (kaB [[44,32]] _ ⟨by decide,trivial⟩ (Nat.le_of_ble_eq_true rfl)) mid) (by simp [h0])
 refine Wg.diag (Wg.cast (key _ 0 c (Nat.zero_le _) rfl) ?_)
 rw [List.drop_zero,List.drop_zero,knc ?_,kls]
 match os,ks,hk,h1 with
 | o :: os,x :: ks,_,_=>rw [tPk];exact fun h=>by cases h
 | [],x :: ks,hk,_=>simp at hk
theorem kpb (os:List Int) (ks:List E) (hk:ks.length=os.length) (hb:ks.length<=140737488351232) (h1:1<=ks.length) (ho:∀ x∈os,inO 0 x=true) (H:∀ x∈ks,Wk x) (c:List UInt8) (z:List (List D)) :
 Wg c (tE (.mk 13 0 [] [] os ks a b)) (fun _ k n=>kfI n (Ak k) n z (E.rows ks) (Int.ofNat ks.length) 0 (kay c) 13 0 (bx []) (strs []) (ints os) (E.rows ks) a b):=by
 have key:∀ (d i:Nat) (c:List UInt8),i<=ks.length->ks.length - i=d->Wg c (pks i (tPk (os.drop i) (ks.drop i))++[32,125]) (fun m k n=>kfI m (Ak k) n z (E.rows ks) (Int.ofNat ks.length) (Int.ofNat i) (kay c) 13 0 (bx []) (strs []) (ints os) (E.rows ks) a b):=by
  intro d
  induction d with
  | zero =>
   intro i c hi hd
   rw [show ks.drop i=[] from List.drop_eq_nil_of_le (by omega),show tPk (os.drop i) []=[] by cases os.drop i<;>rfl,pks]
   refine Wg.step ?_
   simp only [kh3]
   refine Wg.no (kba i _ (by omega)) ?_
   simp only [kmw]
   exact Wg.cast (Wg.seq (kaB [[32,125]] _ ⟨by decide,trivial⟩ (Nat.le_of_ble_eq_true rfl)) fun _=>Wg.ret _) (by simp)
  | succ d ih =>
   intro i c hi hd
   have hlt:i < ks.length:=by omega
   have hlo:i < os.length:=by omega
   rw [kna os ks i hlo hlt,pks]
   refine Wg.step ?_
   simp only [kh3]
   refine Wg.yes (kaz i _ hlt) ?_
   simp only [kmv,tn,E.rows_at ks i hlt,E.row_eq,E.rows_len]
   refine Wg.yes (kak i _ hlt) ?_
   have mid:∀ c,Wg c ((Go.Lib.itoa os[i]++[58,32]++tE ks[i])++(pks (i+1) (tPk (os.drop (i+1)) (ks.drop (i+1)))++[32,125])) (fun m k n=>kgX (Ak k) m n z (Int.ofNat i) (E.rows ks) (Int.ofNat ks.length) (Int.ofNat i) (kay c) 13 0 (bx []) (strs []) (ints os) (E.rows ks) a b (D.int .i64 ks[i].k) (D.int .i64 ks[i].n) (D.str (bx ks[i].name)) (D.list 1 (strs ks[i].names)) (D.list 1 (ints ks[i].odds)) (D.list 8 (E.rows ks[i].kids)) (D.int .i64 ks[i].line) (D.int .i64 ks[i].col)):=fun c=>by
    have hat:=kje os i hlo
    unfold dat at hat
    have hoi:=kcO (ho _ (List.getElem_mem hlo))
    have hi12:=kaP (n:=os[i]) (by omega) hoi.2
    simp only [kmy,tn,hat,kc7]
    refine Wg.yes (kak i _ hlo) (Wg.str (kcc os[i] (by omega) hoi.2) ?_)
    have h:=fun c=>H _ (List.getElem_mem hlt) 0 c (by omega)
    simp only [kax] at h
    refine Wg.cast (Wg.seq (kaB [Go.Lib.itoa os[i],[58,32]] _ ⟨by omega,by decide,trivial⟩ (Nat.le_of_ble_eq_true rfl)) fun _=>Wg.seq (h _) fun e=>(?_:Wg e (pks (i+1) (tPk (os.drop (i+1)) (ks.drop (i+1)))++[32,125]) _)) (by simp)
    simp only [kmz,kap i (show i < 9223372036854775807 by omega)]
    exact ih (i+1) e (by omega) (by omega)
   have e0:(Int.ofNat i==0)=decide (i=0):=kcx i 0
   rw [e0]
   by_cases h0:i=0
   · refine Wg.yes (decide_eq_true h0) ?_
     exact Wg.cast (Wg.seq (kaB [[112,105,99,107,32,123,32]] _ ⟨by decide,trivial⟩ (Nat.le_of_ble_eq_true rfl)) mid) (by simp [h0])
   · refine Wg.no (decide_eq_false h0) ?_
     exact Wg.cast (Wg.seq (kaB [[44,32]] _ ⟨by decide,trivial⟩ (Nat.le_of_ble_eq_true rfl)) mid) (by simp [h0])
 refine Wg.diag (Wg.cast (key _ 0 c (Nat.zero_le _) rfl) ?_)
 rw [List.drop_zero,List.drop_zero,knc ?_,kls]
 match os,ks,hk,h1 with
 | o :: os,x :: ks,_,_=>rw [tPk];exact fun h=>by cases h
 | [],x :: ks,hk,_=>simp at hk
end
theorem kDj (d:Nat) (k n:Int) (s:List UInt8) (ns:List (List UInt8)) (os:List Int) (ks:List E) (a b:Int) (h:kaH (d+1) (.mk k n s ns os ks a b)=true) (hl:LenE (.mk k n s ns os ks a b)) (H:∀ x∈ks,Wk x) (c:List UInt8) (zw0:List (List D)) :
 Wg c (tE (.mk k n s ns os ks a b)++[41]) (fun _ k' n'=>kBV (Ak k') n' zw0 (kay c) k n (bx s) (strs ns) (ints os) (E.rows ks) a b (strs [[41]])):=by
 rw [kaH,Bool.and_eq_true] at h
 have hs:=kmX h.1
 rw [LenE] at hl
 clear h
 generalize hnk:ks.length=nk at hs
 simp only [kvW]
 cases hs with
 | num _ h1 h2 =>
  obtain rfl:=kcb hnk
  have i12:(Go.Lib.itoa n).length<=1000000:=Nat.le_trans (kaP (by omega) h2) (by decide)
  refine Wg.yes rfl ?_
  try simp only [E.rows_cons,E.rows_nil,List.getD_cons_zero,List.getD_cons_succ,List.length_cons,List.length_nil,strs,ints,List.map_cons,List.map_nil,D.bytes]
  refine Wg.cast (Wg.str (kcc n (by omega) h2) (Wg.seq (kaB [Go.Lib.itoa n] _ ⟨i12,trivial⟩ (Nat.le_of_ble_eq_true rfl)) fun _=>(Wg.seq (kb8 [[41]] _ ⟨by decide,trivial⟩ (Nat.le_of_ble_eq_true rfl)) fun _=>Wg.ret _))) ?_
  simp [kp4,kax]
 | bool _ h1 =>
  obtain rfl:=kcb hnk
  refine Wg.no rfl (Wg.yes rfl ?_)
  try simp only [E.rows_cons,E.rows_nil,List.getD_cons_zero,List.getD_cons_succ,List.length_cons,List.length_nil,strs,ints,List.map_cons,List.map_nil,D.bytes]
  refine Wg.cast (Wg.str (C_fb (n==1)) (Wg.seq (kaB [(if (n==1)=true then kgC else kdx)] _ ⟨by split<;>decide,trivial⟩ (Nat.le_of_ble_eq_true rfl)) fun _=>(Wg.seq (kb8 [[41]] _ ⟨by decide,trivial⟩ (Nat.le_of_ble_eq_true rfl)) fun _=>Wg.ret _))) ?_
  simp [klo,kax]
 | var _ h1 =>
  obtain rfl:=kcb hnk
  refine Wg.no rfl (Wg.no rfl (Wg.yes rfl ?_))
  try simp only [E.rows_cons,E.rows_nil,List.getD_cons_zero,List.getD_cons_succ,List.length_cons,List.length_nil,strs,ints,List.map_cons,List.map_nil,D.bytes]
  refine Wg.cast (Wg.seq (kaB [s] _ ⟨Nat.le_trans (kaQ h1) (by decide),trivial⟩ (Nat.le_of_ble_eq_true rfl)) fun _=>(Wg.seq (kb8 [[41]] _ ⟨by decide,trivial⟩ (Nat.le_of_ble_eq_true rfl)) fun _=>Wg.ret _)) ?_
  simp [kp5,kax]
 | call _ _ h1 =>
  refine Wg.no rfl (Wg.no rfl (Wg.no rfl (Wg.yes rfl ?_)))
  refine Wg.cast (Wg.seq (kaB [s,[40]] _ ⟨Nat.le_trans (kaQ h1) (by decide),by decide,trivial⟩ (Nat.le_of_ble_eq_true rfl)) fun _=>(Wg.seq (kfV ks hl.1.2.2 H _) fun _=>(Wg.seq (kaB [[41]] _ ⟨by decide,trivial⟩ (Nat.le_of_ble_eq_true rfl)) fun _=>(Wg.seq (kb8 [[41]] _ ⟨by decide,trivial⟩ (Nat.le_of_ble_eq_true rfl)) fun _=>Wg.ret _)))) ?_
  simp [klp,kax]
 | tup _ h1 h2 =>
  refine Wg.no rfl (Wg.no rfl (Wg.no rfl (Wg.no rfl (Wg.yes rfl ?_))))
  refine Wg.cast (Wg.seq (kaB [[40]] _ ⟨by decide,trivial⟩ (Nat.le_of_ble_eq_true rfl)) fun _=>(Wg.seq (kfV ks hl.1.2.2 H _) fun _=>(Wg.seq (kaB [[41]] _ ⟨by decide,trivial⟩ (Nat.le_of_ble_eq_true rfl)) fun _=>(Wg.seq (kb8 [[41]] _ ⟨by decide,trivial⟩ (Nat.le_of_ble_eq_true rfl)) fun _=>Wg.ret _)))) ?_
  simp [kp6,kax]
 | list _ =>
  refine Wg.no rfl (Wg.no rfl (Wg.no rfl (Wg.no rfl (Wg.no rfl (Wg.yes rfl ?_)))))
  refine Wg.cast (Wg.seq (kaB [[91]] _ ⟨by decide,trivial⟩ (Nat.le_of_ble_eq_true rfl)) fun _=>(Wg.seq (kfV ks hl.1.2.2 H _) fun _=>(Wg.seq (kaB [[93]] _ ⟨by decide,trivial⟩ (Nat.le_of_ble_eq_true rfl)) fun _=>(Wg.seq (kb8 [[41]] _ ⟨by decide,trivial⟩ (Nat.le_of_ble_eq_true rfl)) fun _=>Wg.ret _)))) ?_
  simp [klq,kax]
 | un _ h1 =>
  obtain ⟨x,rfl⟩:=khr hnk
  refine Wg.no rfl (Wg.no rfl (Wg.no rfl (Wg.no rfl (Wg.no rfl (Wg.no rfl (Wg.yes rfl ?_))))))
  rcases h1 with rfl | rfl
  · exact Wg.cast (Wg.seq (kx1 a b x (H x (by simp)) c) fun _=>(Wg.seq (kb8 [[41]] _ ⟨by decide,trivial⟩ (Nat.le_of_ble_eq_true rfl)) fun _=>Wg.ret _)) (by simp)
  · exact Wg.cast (Wg.seq (kx2 a b x (H x (by simp)) c) fun _=>(Wg.seq (kb8 [[41]] _ ⟨by decide,trivial⟩ (Nat.le_of_ble_eq_true rfl)) fun _=>Wg.ret _)) (by simp)
 | bin _ h1 h2 =>
  obtain ⟨x,y,rfl⟩:=kfU hnk
  refine Wg.no rfl (Wg.no rfl (Wg.no rfl (Wg.no rfl (Wg.no rfl (Wg.no rfl (Wg.yes rfl ?_))))))
  exact Wg.cast (Wg.seq (kx3 a b s x y h1 h2 (H x (by simp)) (H y (by simp)) c) fun _=>(Wg.seq (kb8 [[41]] _ ⟨by decide,trivial⟩ (Nat.le_of_ble_eq_true rfl)) fun _=>Wg.ret _)) (by simp)
 | let_ _ h1 h2 h3 =>
  obtain ⟨x,y,rfl⟩:=kfU hnk
  refine Wg.no rfl (Wg.no rfl (Wg.no rfl (Wg.no rfl (Wg.no rfl (Wg.no rfl (Wg.no rfl (Wg.yes rfl ?_)))))))
  have rest:∀ c,Wg c ([32,61,32]++tE x++[32,105,110,32]++tE y++[41]) (fun _ k' n'=>kvM (Ak k') n' zw0 (kay c) 8 0 (bx []) (strs ns) (ints []) (E.rows [x,y]) a b (strs [[41]])):=fun c=>by
   simp only [kvZ]
   simp only [E.rows_cons,E.rows_nil,List.getD_cons_zero,List.getD_cons_succ,List.length_cons,List.length_nil,strs,ints,List.map_cons,List.map_nil,D.bytes]
   refine Wg.cast (Wg.seq (kaB [[32,61,32]] _ ⟨by decide,trivial⟩ (Nat.le_of_ble_eq_true rfl)) fun _=>(Wg.yes rfl (Wg.seq (H x (by simp) 0 _ (by omega)) fun _=>(Wg.seq (kaB [[32,105,110,32]] _ ⟨by decide,trivial⟩ (Nat.le_of_ble_eq_true rfl)) fun _=>(Wg.yes rfl (Wg.seq (H y (by simp) 0 _ (by omega)) fun _=>(Wg.seq (kb8 [[41]] _ ⟨by decide,trivial⟩ (Nat.le_of_ble_eq_true rfl)) fun _=>Wg.ret _))))))) ?_
   simp [kax]
  have lb:(cms ns).length<=1000000:=by
   have hr:∀ (l:List (List UInt8)),(∀ x∈l,kaA x=true)->(cmr l).length<=26*l.length:=fun l=>by
    induction l with
    | nil=>intro _;exact Nat.le_refl _
    | cons q r ih =>
     intro hq
     have:=kaQ (hq q (by simp))
     have:=ih fun w hw=>hq w (by simp [hw])
     simp only [cmr,List.length_append,List.length_cons,List.length_nil]
     omega
   cases ns with
   | nil=>decide
   | cons q r =>
    have:=kaQ (h3 q (by simp))
    have:=hr r fun w hw=>h3 w (by simp [hw])
    simp only [List.length_cons] at h2
    simp only [cms,List.length_append]
    omega
  match ns,h1,h2,h3,hl,rest,lb with
  | [q],_,_,h3,hl,rest,_ =>
   have hq:=Nat.le_trans (kaQ (h3 q (by simp))) (show 24<=1000000 by decide)
   refine Wg.cast (Wg.seq (kaB [[108,101,116,32]] _ ⟨by decide,trivial⟩ (Nat.le_of_ble_eq_true rfl)) fun _=>Wg.yes rfl (Wg.yes rfl (Wg.seq (kaB [q] _ ⟨hq,trivial⟩ (Nat.le_of_ble_eq_true rfl)) fun c=>rest c))) ?_
   simp [kkf,tNs]
  | q :: q2 :: r,_,h2,h3,hl,rest,lb =>
   refine Wg.cast (Wg.seq (kaB [[108,101,116,32]] _ ⟨by decide,trivial⟩ (Nat.le_of_ble_eq_true rfl)) fun _=>Wg.no ?_ (Wg.str (kqA (q :: q2 :: r) (by omega) (by omega)) (Wg.seq (kaB [[40],cms (q :: q2 :: r),[41]] _ ⟨by decide,lb,by decide,trivial⟩ (Nat.le_of_ble_eq_true rfl)) fun c=>rest c))) ?_
   · rw [kbA]
     exact (kcx _ 1).trans (decide_eq_false (by simp only [List.length_cons];omega))
   · simp [kkf,tNs]
 | if_ =>
  obtain ⟨x,y,z,rfl⟩:=kdk hnk
  refine Wg.no rfl (Wg.no rfl (Wg.no rfl (Wg.no rfl (Wg.no rfl (Wg.no rfl (Wg.no rfl (Wg.no rfl (Wg.yes rfl ?_))))))))
  try simp only [E.rows_cons,E.rows_nil,List.getD_cons_zero,List.getD_cons_succ,List.length_cons,List.length_nil,strs,ints,List.map_cons,List.map_nil,D.bytes]
  refine Wg.cast (Wg.seq (kaB [[105,102,32]] _ ⟨by decide,trivial⟩ (Nat.le_of_ble_eq_true rfl)) fun _=>(Wg.yes rfl (Wg.seq (H x (by simp) 0 _ (by omega)) fun _=>(Wg.seq (kaB [[32,116,104,101,110,32]] _ ⟨by decide,trivial⟩ (Nat.le_of_ble_eq_true rfl)) fun _=>(Wg.yes rfl (Wg.seq (H y (by simp) 0 _ (by omega)) fun _=>(Wg.seq (kaB [[32,101,108,115,101,32]] _ ⟨by decide,trivial⟩ (Nat.le_of_ble_eq_true rfl)) fun _=>(Wg.yes rfl (Wg.seq (H z (by simp) 0 _ (by omega)) fun _=>(Wg.seq (kb8 [[41]] _ ⟨by decide,trivial⟩ (Nat.le_of_ble_eq_true rfl)) fun _=>Wg.ret _)))))))))) ?_
  simp [kzQ,kax]
 | case_ p q h1 h2 =>
  obtain ⟨x,y,z,rfl⟩:=kdk hnk
  refine Wg.no rfl (Wg.no rfl (Wg.no rfl (Wg.no rfl (Wg.no rfl (Wg.no rfl (Wg.no rfl (Wg.no rfl (Wg.no rfl (Wg.yes rfl ?_)))))))))
  try simp only [E.rows_cons,E.rows_nil,List.getD_cons_zero,List.getD_cons_succ,List.length_cons,List.length_nil,strs,ints,List.map_cons,List.map_nil,D.bytes]
  refine Wg.cast (Wg.seq (kaB [[99,97,115,101,32]] _ ⟨by decide,trivial⟩ (Nat.le_of_ble_eq_true rfl)) fun _=>(Wg.yes rfl (Wg.seq (H x (by simp) 0 _ (by omega)) fun _=>(Wg.seq (kaB [[32,111,102,32,91,93,32,61,62,32]] _ ⟨by decide,trivial⟩ (Nat.le_of_ble_eq_true rfl)) fun _=>(Wg.yes rfl (Wg.seq (H y (by simp) 0 _ (by omega)) fun _=>(Wg.yes rfl (Wg.yes rfl (Wg.seq (kaB [[32,124,32],p,[32,58,58,32],q,[32,61,62,32]] _ ⟨by decide,Nat.le_trans (kaQ h1) (by decide),by decide,Nat.le_trans (kaQ h2) (by decide),by decide,trivial⟩ (Nat.le_of_ble_eq_true rfl)) fun _=>(Wg.yes rfl (Wg.seq (H z (by simp) 0 _ (by omega)) fun _=>(Wg.seq (kb8 [[41]] _ ⟨by decide,trivial⟩ (Nat.le_of_ble_eq_true rfl)) fun _=>Wg.ret _)))))))))))) ?_
  simp [klr,kax]
 | obs =>
  obtain ⟨x,y,rfl⟩:=kfU hnk
  refine Wg.no rfl (Wg.no rfl (Wg.no rfl (Wg.no rfl (Wg.no rfl (Wg.no rfl (Wg.no rfl (Wg.no rfl (Wg.no rfl (Wg.no rfl (Wg.yes rfl ?_))))))))))
  try simp only [E.rows_cons,E.rows_nil,List.getD_cons_zero,List.getD_cons_succ,List.length_cons,List.length_nil,strs,ints,List.map_cons,List.map_nil,D.bytes]
  refine Wg.cast (Wg.seq (kaB [[111,98,115,101,114,118,101,32]] _ ⟨by decide,trivial⟩ (Nat.le_of_ble_eq_true rfl)) fun _=>(Wg.yes rfl (Wg.seq (H x (by simp) 0 _ (by omega)) fun _=>(Wg.seq (kaB [[32,105,110,32]] _ ⟨by decide,trivial⟩ (Nat.le_of_ble_eq_true rfl)) fun _=>(Wg.yes rfl (Wg.seq (H y (by simp) 0 _ (by omega)) fun _=>(Wg.seq (kb8 [[41]] _ ⟨by decide,trivial⟩ (Nat.le_of_ble_eq_true rfl)) fun _=>Wg.ret _))))))) ?_
  simp [kp7,kax]
 | score p q hp hq =>
  obtain ⟨x,rfl⟩:=khr hnk
  have hp:=kcO hp;have hq:=kcO hq
  have ip:=kaP (n:=p) (by omega) hp.2;have iq:=kaP (n:=q) (by omega) hq.2
  refine Wg.no rfl (Wg.no rfl (Wg.no rfl (Wg.no rfl (Wg.no rfl (Wg.no rfl (Wg.no rfl (Wg.no rfl (Wg.no rfl (Wg.no rfl (Wg.no rfl (Wg.yes rfl ?_)))))))))))
  try simp only [E.rows_cons,E.rows_nil,List.getD_cons_zero,List.getD_cons_succ,List.length_cons,List.length_nil,strs,ints,List.map_cons,List.map_nil,D.bytes]
  refine Wg.cast (Wg.yes rfl (Wg.str (kcc p (by omega) (by omega)) (Wg.yes rfl (Wg.str (kcc q (by omega) (by omega)) (Wg.seq (kaB [[115,99,111,114,101,32],Go.Lib.itoa p,[47],Go.Lib.itoa q,[32,105,110,32]] _ ⟨by decide,by omega,by decide,by omega,by decide,trivial⟩ (Nat.le_of_ble_eq_true rfl)) fun _=>(Wg.yes rfl (Wg.seq (H x (by simp) 0 _ (by omega)) fun _=>(Wg.seq (kb8 [[41]] _ ⟨by decide,trivial⟩ (Nat.le_of_ble_eq_true rfl)) fun _=>Wg.ret _)))))))) ?_
  simp [ki6,kax]
 | pick _ h1 h2 =>
  refine Wg.no rfl (Wg.no rfl (Wg.no rfl (Wg.no rfl (Wg.no rfl (Wg.no rfl (Wg.no rfl (Wg.no rfl (Wg.no rfl (Wg.no rfl (Wg.no rfl (Wg.no rfl (Wg.yes rfl ?_))))))))))))
  rw [E.rows_len]
  exact kz9 a b os ks hnk hl.1.2.2 (by omega) h2 H c zw0
 | flip p q hp hq =>
  obtain rfl:=kcb hnk
  have hp:=kcO hp;have hq:=kcO hq
  have ip:=kaP (n:=p) (by omega) hp.2;have iq:=kaP (n:=q) (by omega) hq.2
  refine Wg.no rfl (Wg.no rfl (Wg.no rfl (Wg.no rfl (Wg.no rfl (Wg.no rfl (Wg.no rfl (Wg.no rfl (Wg.no rfl (Wg.no rfl (Wg.no rfl (Wg.no rfl (Wg.no rfl (Wg.yes rfl ?_)))))))))))))
  try simp only [E.rows_cons,E.rows_nil,List.getD_cons_zero,List.getD_cons_succ,List.length_cons,List.length_nil,strs,ints,List.map_cons,List.map_nil,D.bytes]
  refine Wg.cast (Wg.yes rfl (Wg.str (kcc p (by omega) (by omega)) (Wg.yes rfl (Wg.str (kcc q (by omega) (by omega)) (Wg.seq (kaB [[102,108,105,112,40],Go.Lib.itoa p,[47],Go.Lib.itoa q,[41]] _ ⟨by decide,by omega,by decide,by omega,by decide,trivial⟩ (Nat.le_of_ble_eq_true rfl)) fun _=>(Wg.seq (kb8 [[41]] _ ⟨by decide,trivial⟩ (Nat.le_of_ble_eq_true rfl)) fun _=>Wg.ret _)))))) ?_
  simp [klt,kax]
 | range p q hp hq =>
  obtain rfl:=kcb hnk
  have hp:=kcO hp;have hq:=kcO hq
  have ip:=kaP (n:=p) (by omega) hp.2;have iq:=kaP (n:=q) (by omega) hq.2
  refine Wg.no rfl (Wg.no rfl (Wg.no rfl (Wg.no rfl (Wg.no rfl (Wg.no rfl (Wg.no rfl (Wg.no rfl (Wg.no rfl (Wg.no rfl (Wg.no rfl (Wg.no rfl (Wg.no rfl (Wg.no rfl (Wg.yes rfl ?_))))))))))))))
  try simp only [E.rows_cons,E.rows_nil,List.getD_cons_zero,List.getD_cons_succ,List.length_cons,List.length_nil,strs,ints,List.map_cons,List.map_nil,D.bytes]
  refine Wg.cast (Wg.yes rfl (Wg.str (kcc p (by omega) (by omega)) (Wg.yes rfl (Wg.str (kcc q (by omega) (by omega)) (Wg.seq (kaB [[114,97,110,103,101,40],Go.Lib.itoa p,[44,32],Go.Lib.itoa q,[41]] _ ⟨by decide,by omega,by decide,by omega,by decide,trivial⟩ (Nat.le_of_ble_eq_true rfl)) fun _=>(Wg.seq (kb8 [[41]] _ ⟨by decide,trivial⟩ (Nat.le_of_ble_eq_true rfl)) fun _=>Wg.ret _)))))) ?_
  simp [ki7,kax]
theorem kqD (d:Nat) (k n:Int) (s:List UInt8) (ns:List (List UInt8)) (os:List Int) (ks:List E) (a b:Int) (h:kaH (d+1) (.mk k n s ns os ks a b)=true) (hl:LenE (.mk k n s ns os ks a b)) (H:∀ x∈ks,Wk x) (c:List UInt8) (zw0:List (List D)) :
 Wg c (tE (.mk k n s ns os ks a b)) (fun _ k' n'=>kjZ (Ak k') n' zw0 (kay c) k n (bx s) (strs ns) (ints os) (E.rows ks) a b):=by
 rw [kaH,Bool.and_eq_true] at h
 have hs:=kmX h.1
 rw [LenE] at hl
 clear h
 generalize hnk:ks.length=nk at hs
 simp only [kmt]
 cases hs with
 | num _ h1 h2 =>
  obtain rfl:=kcb hnk
  have i12:(Go.Lib.itoa n).length<=1000000:=Nat.le_trans (kaP (by omega) h2) (by decide)
  refine Wg.yes rfl ?_
  try simp only [E.rows_cons,E.rows_nil,List.getD_cons_zero,List.getD_cons_succ,List.length_cons,List.length_nil,strs,ints,List.map_cons,List.map_nil,D.bytes]
  refine Wg.cast (Wg.str (kcc n (by omega) h2) (Wg.seq (kaB [Go.Lib.itoa n] _ ⟨i12,trivial⟩ (Nat.le_of_ble_eq_true rfl)) fun _=>(Wg.ret _))) ?_
  simp [kp4,kax]
 | bool _ h1 =>
  obtain rfl:=kcb hnk
  refine Wg.no rfl (Wg.yes rfl ?_)
  try simp only [E.rows_cons,E.rows_nil,List.getD_cons_zero,List.getD_cons_succ,List.length_cons,List.length_nil,strs,ints,List.map_cons,List.map_nil,D.bytes]
  refine Wg.cast (Wg.str (C_fb (n==1)) (Wg.seq (kaB [(if (n==1)=true then kgC else kdx)] _ ⟨by split<;>decide,trivial⟩ (Nat.le_of_ble_eq_true rfl)) fun _=>(Wg.ret _))) ?_
  simp [klo,kax]
 | var _ h1 =>
  obtain rfl:=kcb hnk
  refine Wg.no rfl (Wg.no rfl (Wg.yes rfl ?_))
  try simp only [E.rows_cons,E.rows_nil,List.getD_cons_zero,List.getD_cons_succ,List.length_cons,List.length_nil,strs,ints,List.map_cons,List.map_nil,D.bytes]
  refine Wg.cast (Wg.seq (kaB [s] _ ⟨Nat.le_trans (kaQ h1) (by decide),trivial⟩ (Nat.le_of_ble_eq_true rfl)) fun _=>(Wg.ret _)) ?_
  simp [kp5,kax]
 | call _ _ h1 =>
  refine Wg.no rfl (Wg.no rfl (Wg.no rfl (Wg.yes rfl ?_)))
  refine Wg.cast (Wg.seq (kaB [s,[40]] _ ⟨Nat.le_trans (kaQ h1) (by decide),by decide,trivial⟩ (Nat.le_of_ble_eq_true rfl)) fun _=>(Wg.seq (kfV ks hl.1.2.2 H _) fun _=>(Wg.seq (kaB [[41]] _ ⟨by decide,trivial⟩ (Nat.le_of_ble_eq_true rfl)) fun _=>(Wg.ret _)))) ?_
  simp [klp,kax]
 | tup _ h1 h2 =>
  refine Wg.no rfl (Wg.no rfl (Wg.no rfl (Wg.no rfl (Wg.yes rfl ?_))))
  refine Wg.cast (Wg.seq (kaB [[40]] _ ⟨by decide,trivial⟩ (Nat.le_of_ble_eq_true rfl)) fun _=>(Wg.seq (kfV ks hl.1.2.2 H _) fun _=>(Wg.seq (kaB [[41]] _ ⟨by decide,trivial⟩ (Nat.le_of_ble_eq_true rfl)) fun _=>(Wg.ret _)))) ?_
  simp [kp6,kax]
 | list _ =>
  refine Wg.no rfl (Wg.no rfl (Wg.no rfl (Wg.no rfl (Wg.no rfl (Wg.yes rfl ?_)))))
  refine Wg.cast (Wg.seq (kaB [[91]] _ ⟨by decide,trivial⟩ (Nat.le_of_ble_eq_true rfl)) fun _=>(Wg.seq (kfV ks hl.1.2.2 H _) fun _=>(Wg.seq (kaB [[93]] _ ⟨by decide,trivial⟩ (Nat.le_of_ble_eq_true rfl)) fun _=>(Wg.ret _)))) ?_
  simp [klq,kax]
 | un _ h1 =>
  obtain ⟨x,rfl⟩:=khr hnk
  refine Wg.no rfl (Wg.no rfl (Wg.no rfl (Wg.no rfl (Wg.no rfl (Wg.no rfl (Wg.yes rfl ?_))))))
  rcases h1 with rfl | rfl
  · exact Wg.cast (Wg.seq (kx1 a b x (H x (by simp)) c) fun _=>(Wg.ret _)) (by simp)
  · exact Wg.cast (Wg.seq (kx2 a b x (H x (by simp)) c) fun _=>(Wg.ret _)) (by simp)
 | bin _ h1 h2 =>
  obtain ⟨x,y,rfl⟩:=kfU hnk
  refine Wg.no rfl (Wg.no rfl (Wg.no rfl (Wg.no rfl (Wg.no rfl (Wg.no rfl (Wg.yes rfl ?_))))))
  exact Wg.cast (Wg.seq (kx3 a b s x y h1 h2 (H x (by simp)) (H y (by simp)) c) fun _=>(Wg.ret _)) (by simp)
 | let_ _ h1 h2 h3 =>
  obtain ⟨x,y,rfl⟩:=kfU hnk
  refine Wg.no rfl (Wg.no rfl (Wg.no rfl (Wg.no rfl (Wg.no rfl (Wg.no rfl (Wg.no rfl (Wg.yes rfl ?_)))))))
  have rest:∀ c,Wg c ([32,61,32]++tE x++[32,105,110,32]++tE y) (fun _ k' n'=>kgV (Ak k') n' zw0 (kay c) 8 0 (bx []) (strs ns) (ints []) (E.rows [x,y]) a b):=fun c=>by
   simp only [kmu]
   simp only [E.rows_cons,E.rows_nil,List.getD_cons_zero,List.getD_cons_succ,List.length_cons,List.length_nil,strs,ints,List.map_cons,List.map_nil,D.bytes]
   refine Wg.cast (Wg.seq (kaB [[32,61,32]] _ ⟨by decide,trivial⟩ (Nat.le_of_ble_eq_true rfl)) fun _=>(Wg.yes rfl (Wg.seq (H x (by simp) 0 _ (by omega)) fun _=>(Wg.seq (kaB [[32,105,110,32]] _ ⟨by decide,trivial⟩ (Nat.le_of_ble_eq_true rfl)) fun _=>(Wg.yes rfl (Wg.seq (H y (by simp) 0 _ (by omega)) fun _=>(Wg.ret _))))))) ?_
   simp [kax]
  have lb:(cms ns).length<=1000000:=by
   have hr:∀ (l:List (List UInt8)),(∀ x∈l,kaA x=true)->(cmr l).length<=26*l.length:=fun l=>by
    induction l with
    | nil=>intro _;exact Nat.le_refl _
    | cons q r ih =>
     intro hq
     have:=kaQ (hq q (by simp))
     have:=ih fun w hw=>hq w (by simp [hw])
     simp only [cmr,List.length_append,List.length_cons,List.length_nil]
     omega
   cases ns with
   | nil=>decide
   | cons q r =>
    have:=kaQ (h3 q (by simp))
    have:=hr r fun w hw=>h3 w (by simp [hw])
    simp only [List.length_cons] at h2
    simp only [cms,List.length_append]
    omega
  match ns,h1,h2,h3,hl,rest,lb with
  | [q],_,_,h3,hl,rest,_ =>
   have hq:=Nat.le_trans (kaQ (h3 q (by simp))) (show 24<=1000000 by decide)
   refine Wg.cast (Wg.seq (kaB [[108,101,116,32]] _ ⟨by decide,trivial⟩ (Nat.le_of_ble_eq_true rfl)) fun _=>Wg.yes rfl (Wg.yes rfl (Wg.seq (kaB [q] _ ⟨hq,trivial⟩ (Nat.le_of_ble_eq_true rfl)) fun c=>rest c))) ?_
   simp [kkf,tNs]
  | q :: q2 :: r,_,h2,h3,hl,rest,lb =>
   refine Wg.cast (Wg.seq (kaB [[108,101,116,32]] _ ⟨by decide,trivial⟩ (Nat.le_of_ble_eq_true rfl)) fun _=>Wg.no ?_ (Wg.str (kqA (q :: q2 :: r) (by omega) (by omega)) (Wg.seq (kaB [[40],cms (q :: q2 :: r),[41]] _ ⟨by decide,lb,by decide,trivial⟩ (Nat.le_of_ble_eq_true rfl)) fun c=>rest c))) ?_
   · rw [kbA]
     exact (kcx _ 1).trans (decide_eq_false (by simp only [List.length_cons];omega))
   · simp [kkf,tNs]
 | if_ =>
  obtain ⟨x,y,z,rfl⟩:=kdk hnk
  refine Wg.no rfl (Wg.no rfl (Wg.no rfl (Wg.no rfl (Wg.no rfl (Wg.no rfl (Wg.no rfl (Wg.no rfl (Wg.yes rfl ?_))))))))
  try simp only [E.rows_cons,E.rows_nil,List.getD_cons_zero,List.getD_cons_succ,List.length_cons,List.length_nil,strs,ints,List.map_cons,List.map_nil,D.bytes]
  refine Wg.cast (Wg.seq (kaB [[105,102,32]] _ ⟨by decide,trivial⟩ (Nat.le_of_ble_eq_true rfl)) fun _=>(Wg.yes rfl (Wg.seq (H x (by simp) 0 _ (by omega)) fun _=>(Wg.seq (kaB [[32,116,104,101,110,32]] _ ⟨by decide,trivial⟩ (Nat.le_of_ble_eq_true rfl)) fun _=>(Wg.yes rfl (Wg.seq (H y (by simp) 0 _ (by omega)) fun _=>(Wg.seq (kaB [[32,101,108,115,101,32]] _ ⟨by decide,trivial⟩ (Nat.le_of_ble_eq_true rfl)) fun _=>(Wg.yes rfl (Wg.seq (H z (by simp) 0 _ (by omega)) fun _=>(Wg.ret _)))))))))) ?_
  simp [kzQ,kax]
 | case_ p q h1 h2 =>
  obtain ⟨x,y,z,rfl⟩:=kdk hnk
  refine Wg.no rfl (Wg.no rfl (Wg.no rfl (Wg.no rfl (Wg.no rfl (Wg.no rfl (Wg.no rfl (Wg.no rfl (Wg.no rfl (Wg.yes rfl ?_)))))))))
  try simp only [E.rows_cons,E.rows_nil,List.getD_cons_zero,List.getD_cons_succ,List.length_cons,List.length_nil,strs,ints,List.map_cons,List.map_nil,D.bytes]
  refine Wg.cast (Wg.seq (kaB [[99,97,115,101,32]] _ ⟨by decide,trivial⟩ (Nat.le_of_ble_eq_true rfl)) fun _=>(Wg.yes rfl (Wg.seq (H x (by simp) 0 _ (by omega)) fun _=>(Wg.seq (kaB [[32,111,102,32,91,93,32,61,62,32]] _ ⟨by decide,trivial⟩ (Nat.le_of_ble_eq_true rfl)) fun _=>(Wg.yes rfl (Wg.seq (H y (by simp) 0 _ (by omega)) fun _=>(Wg.yes rfl (Wg.yes rfl (Wg.seq (kaB [[32,124,32],p,[32,58,58,32],q,[32,61,62,32]] _ ⟨by decide,Nat.le_trans (kaQ h1) (by decide),by decide,Nat.le_trans (kaQ h2) (by decide),by decide,trivial⟩ (Nat.le_of_ble_eq_true rfl)) fun _=>(Wg.yes rfl (Wg.seq (H z (by simp) 0 _ (by omega)) fun _=>(Wg.ret _)))))))))))) ?_
  simp [klr,kax]
 | obs =>
  obtain ⟨x,y,rfl⟩:=kfU hnk
  refine Wg.no rfl (Wg.no rfl (Wg.no rfl (Wg.no rfl (Wg.no rfl (Wg.no rfl (Wg.no rfl (Wg.no rfl (Wg.no rfl (Wg.no rfl (Wg.yes rfl ?_))))))))))
  try simp only [E.rows_cons,E.rows_nil,List.getD_cons_zero,List.getD_cons_succ,List.length_cons,List.length_nil,strs,ints,List.map_cons,List.map_nil,D.bytes]
  refine Wg.cast (Wg.seq (kaB [[111,98,115,101,114,118,101,32]] _ ⟨by decide,trivial⟩ (Nat.le_of_ble_eq_true rfl)) fun _=>(Wg.yes rfl (Wg.seq (H x (by simp) 0 _ (by omega)) fun _=>(Wg.seq (kaB [[32,105,110,32]] _ ⟨by decide,trivial⟩ (Nat.le_of_ble_eq_true rfl)) fun _=>(Wg.yes rfl (Wg.seq (H y (by simp) 0 _ (by omega)) fun _=>(Wg.ret _))))))) ?_
  simp [kp7,kax]
 | score p q hp hq =>
  obtain ⟨x,rfl⟩:=khr hnk
  have hp:=kcO hp;have hq:=kcO hq
  have ip:=kaP (n:=p) (by omega) hp.2;have iq:=kaP (n:=q) (by omega) hq.2
  refine Wg.no rfl (Wg.no rfl (Wg.no rfl (Wg.no rfl (Wg.no rfl (Wg.no rfl (Wg.no rfl (Wg.no rfl (Wg.no rfl (Wg.no rfl (Wg.no rfl (Wg.yes rfl ?_)))))))))))
  try simp only [E.rows_cons,E.rows_nil,List.getD_cons_zero,List.getD_cons_succ,List.length_cons,List.length_nil,strs,ints,List.map_cons,List.map_nil,D.bytes]
  refine Wg.cast (Wg.yes rfl (Wg.str (kcc p (by omega) (by omega)) (Wg.yes rfl (Wg.str (kcc q (by omega) (by omega)) (Wg.seq (kaB [[115,99,111,114,101,32],Go.Lib.itoa p,[47],Go.Lib.itoa q,[32,105,110,32]] _ ⟨by decide,by omega,by decide,by omega,by decide,trivial⟩ (Nat.le_of_ble_eq_true rfl)) fun _=>(Wg.yes rfl (Wg.seq (H x (by simp) 0 _ (by omega)) fun _=>(Wg.ret _)))))))) ?_
  simp [ki6,kax]
 | pick _ h1 h2 =>
  refine Wg.no rfl (Wg.no rfl (Wg.no rfl (Wg.no rfl (Wg.no rfl (Wg.no rfl (Wg.no rfl (Wg.no rfl (Wg.no rfl (Wg.no rfl (Wg.no rfl (Wg.no rfl (Wg.yes rfl ?_))))))))))))
  rw [E.rows_len]
  exact kpb a b os ks hnk hl.1.2.2 (by omega) h2 H c zw0
 | flip p q hp hq =>
  obtain rfl:=kcb hnk
  have hp:=kcO hp;have hq:=kcO hq
  have ip:=kaP (n:=p) (by omega) hp.2;have iq:=kaP (n:=q) (by omega) hq.2
  refine Wg.no rfl (Wg.no rfl (Wg.no rfl (Wg.no rfl (Wg.no rfl (Wg.no rfl (Wg.no rfl (Wg.no rfl (Wg.no rfl (Wg.no rfl (Wg.no rfl (Wg.no rfl (Wg.no rfl (Wg.yes rfl ?_)))))))))))))
  try simp only [E.rows_cons,E.rows_nil,List.getD_cons_zero,List.getD_cons_succ,List.length_cons,List.length_nil,strs,ints,List.map_cons,List.map_nil,D.bytes]
  refine Wg.cast (Wg.yes rfl (Wg.str (kcc p (by omega) (by omega)) (Wg.yes rfl (Wg.str (kcc q (by omega) (by omega)) (Wg.seq (kaB [[102,108,105,112,40],Go.Lib.itoa p,[47],Go.Lib.itoa q,[41]] _ ⟨by decide,by omega,by decide,by omega,by decide,trivial⟩ (Nat.le_of_ble_eq_true rfl)) fun _=>(Wg.ret _)))))) ?_
  simp [klt,kax]
 | range p q hp hq =>
  obtain rfl:=kcb hnk
  have hp:=kcO hp;have hq:=kcO hq
  have ip:=kaP (n:=p) (by omega) hp.2;have iq:=kaP (n:=q) (by omega) hq.2
  refine Wg.no rfl (Wg.no rfl (Wg.no rfl (Wg.no rfl (Wg.no rfl (Wg.no rfl (Wg.no rfl (Wg.no rfl (Wg.no rfl (Wg.no rfl (Wg.no rfl (Wg.no rfl (Wg.no rfl (Wg.no rfl (Wg.yes rfl ?_))))))))))))))
  try simp only [E.rows_cons,E.rows_nil,List.getD_cons_zero,List.getD_cons_succ,List.length_cons,List.length_nil,strs,ints,List.map_cons,List.map_nil,D.bytes]
  refine Wg.cast (Wg.yes rfl (Wg.str (kcc p (by omega) (by omega)) (Wg.yes rfl (Wg.str (kcc q (by omega) (by omega)) (Wg.seq (kaB [[114,97,110,103,101,40],Go.Lib.itoa p,[44,32],Go.Lib.itoa q,[41]] _ ⟨by decide,by omega,by decide,by omega,by decide,trivial⟩ (Nat.le_of_ble_eq_true rfl)) fun _=>(Wg.ret _)))))) ?_
  simp [ki7,kax]
theorem C_wx:∀ (d:Nat) (e:E),kaH d e=true->LenE e->Wk e
 | 0,.mk ..,h,_=>by rw [kaH] at h;cases h
 | d+1,.mk k n s ns os ks a b,h,hl=>fun m c hm=>by
  have H:∀ x∈ks,Wk x:=fun x hx=>by
   have h2:=h
   have hl2:=hl
   rw [kaH,Bool.and_eq_true] at h2
   rw [LenE] at hl2
   exact C_wx d x (kcs h2.2 x hx) (kho hl2.2 x hx)
  have key:Wg c (tAt m (.mk k n s ns os ks a b)) (fun _ k' n'=>e24 (Ak k') n' k n (bx s) (strs ns) (ints os) (E.rows ks) a b (Int.ofNat m) (kay c)):=by
   simp only [kGe]
   by_cases hc:20000 < c.length
   · refine ⟨c,.full hc,kcq (kir c) (Ev.yes (decide_eq_true (by show (20000:Int) < Int.ofNat _;simp only [Int.ofNat_eq_natCast];omega)) (Ev.ret _))⟩
   · have go:Wg c (tAt m (.mk k n s ns os ks a b)) (fun _ k' n'=>kBT (Ak k') n' (kay c) (Int.ofNat m) (kay c) k n (bx s) (strs ns) (ints os) (E.rows ks) a b):=by
      simp only [kvT]
      refine Wg.int (kDi (.mk k n s ns os ks a b)) ?_
      unfold tAt
      by_cases hr:(E.mk k n s ns os ks a b).rk < m
      · rw [if_pos hr]
        refine Wg.yes (kaz _ _ hr) ?_
        exact Wg.cast (Wg.seq (kaB [[40]] _ ⟨by decide,trivial⟩ (Nat.le_of_ble_eq_true rfl)) fun w=>kDj d k n s ns os ks a b h hl H w _) (by simp)
      · rw [if_neg hr]
        exact Wg.no (kba _ _ (by omega)) (kqD d k n s ns os ks a b h hl H c _)
     obtain ⟨w,hw,he⟩:=go
     exact ⟨w,hw,kcq (kir c) (Ev.no (decide_eq_false (by show ¬ (20000:Int) < Int.ofNat _;simp only [Int.ofNat_eq_natCast];omega)) he)⟩
  obtain ⟨w,hw,he⟩:=key
  exact ⟨w,hw,kGo _ _ _ _ _ _ _ _ _ _ he⟩
end Go.Proofs.YtaphnbaiamnfpaaGreatDoor.Ps
namespace Go.Proofs.YtaphnbaiamnfpaaGreatDoor.Ps
set_option linter.unusedVariables false
set_option linter.unusedSimpArgs false
open Go Go.RowKit Px
open Lx (Tok)
abbrev SomeI (f:FuncId) (args:List V):Prop:=∃ v:Int,Cal f args [] (RV (V.one (iX v)))
def Mean (n most v:Int) (w:Nat):Prop:=0<=n->n<=1152921504606846976->most<=1152921504606846976->n<=v∧(v<=n+562949953421312∨v<=most+562949953421312)∧(v<=most->v=n+Int.ofNat w)
theorem kDk (e:E) (hk:e.kids.length<=140737488351232) (most:Int) (H:∀ x∈e.kids,∀ n,∃ v:Int,Cal 49 [eV x,V.one (iX n),V.one (iX most)] [] (RV (V.one (iX v)))∧Mean n most v (wE x)):∀ (d i:Nat),i<=e.kids.length->e.kids.length - i=d->∀ n:Int,
 ∃ v:Int,Ev (fun m k n'=>kwd m (Ak k) n' n most (Int.ofNat i) e.k e.n (bx e.name) (strs e.names) (ints e.odds) (E.rows e.kids) e.line e.col) (RV (V.one (iX v))) ∧
  (0<=n->most<=1152921504606846976->n<=v∧(v<=n∨v<=most+562949953421312)∧(v<=most->v=n+Int.ofNat (wEs (e.kids.drop i)))):=by
 intro d
 induction d with
 | zero =>
  intro i hi hd n
  refine ⟨n,Ev.step ?_,fun _ _=>⟨Int.le_refl _,.inl (Int.le_refl _),fun _=>?_⟩⟩
  · simp only [kj2,E.rows_len]
    exact Ev.no (kba i _ (by omega)) (Ev.of fun m k n'=>by rw [koE])
  · rw [List.drop_eq_nil_of_le (by omega),kbx];simp
 | succ d ih =>
  intro i hi hd n
  have hlt:i < e.kids.length:=by omega
  by_cases hn:n<=most
  · obtain ⟨v,hv,hm⟩:=H e.kids[i] (List.getElem_mem hlt) n
    obtain ⟨w,hw,hmw⟩:=ih (i+1) (by omega) (by omega) v
    refine ⟨w,Ev.step ?_,fun h0 h1=>?_⟩
    · simp only [kj2,E.rows_len]
      refine Ev.yes (kaz i _ hlt) (Ev.yes (decide_eq_true hn) ?_)
      simp only [kwi,tn,E.rows_at e.kids i hlt,E.row_eq,E.rows_len]
      refine Ev.yes (kak i _ hlt) (v_oI hv ?_)
      simp only [kwj,kap i (show i < 9223372036854775807 by omega)]
      exact hw
    · obtain ⟨a1,a2,a3⟩:=hm h0 (by omega) h1
      obtain ⟨b1,b2,b3⟩:=hmw (by omega) h1
      rw [List.drop_eq_getElem_cons hlt,kaN]
      simp only [Int.ofNat_eq_natCast] at *
      exact ⟨by omega,by omega,fun h=>by have:=b3 h;have:=a3 (by omega);omega⟩
  · refine ⟨n,Ev.step ?_,fun _ _=>⟨Int.le_refl _,.inl (Int.le_refl _),fun h=>absurd h hn⟩⟩
    simp only [kj2,E.rows_len]
    exact Ev.yes (kaz i _ hlt) (Ev.no (decide_eq_false hn) (Ev.of fun m k n'=>by rw [koE]))
mutual
theorem kx4:∀ (e:E),LenE e->∀ n most:Int,∃ v:Int,Cal 49 [eV e,V.one (iX n),V.one (iX most)] [] (RV (V.one (iX v)))∧Mean n most v (wE e)
 | .mk k c s ns os ks a b,h=>fun n most=>by
  rw [LenE] at h
  obtain ⟨⟨hns,hos,hks⟩,hkk⟩:=h
  have H:=kqE ks hkk
  obtain ⟨v,hv,hm⟩:=kDk (.mk k c s ns os ks a b) hks most (fun x hx n=>H x hx n most) _ 0 (Nat.zero_le _) rfl (IntKind.wrap .i64 (IntKind.wrap .i64 (IntKind.wrap .i64 (n+1)+Int.ofNat (strs ns).length)+Int.ofNat (ints os).length))
  refine ⟨v,kGH _ _ _ _ _ _ _ _ _ _ ?_,fun h0 h1 h2=>?_⟩
  · simp only [kGE]
    exact Ev.diag hv
  · rw [kcN,kfj,wrap_in (n+1) (by omega) (by omega)] at hm
    simp only [Int.ofNat_eq_natCast] at hm ⊢
    rw [wrap_in (n+1+↑ns.length) (by omega) (by omega),wrap_in _ (by omega) (by omega)] at hm
    obtain ⟨a1,a2,a3⟩:=hm (by omega) h2
    rw [kc5]
    refine ⟨by omega,by omega,fun h=>?_⟩
    have:=a3 h
    rw [List.drop_zero] at this
    have e:(E.mk k c s ns os ks a b).kids=ks:=rfl
    rw [e] at this
    omega
theorem kqE:∀ (ks:List E),kff ks->∀ x∈ks,∀ n most:Int,∃ v:Int,Cal 49 [eV x,V.one (iX n),V.one (iX most)] [] (RV (V.one (iX v)))∧Mean n most v (wE x)
 | [],_,x,hx=>by cases hx
 | z :: r,hs,x,hx=>by
  rw [kff] at hs
  rcases List.mem_cons.1 hx with h | h
  · rw [h];exact kx4 z hs.1
  · exact kqE r hs.2 x h
end
abbrev SomeB (f:FuncId) (args:List V):Prop:=∃ v:Bool,Cal f args [] (RV (V.one (bX v)))
theorem kx5 (most:Int) (hmost:most<=1000000) (es:List E) (hl:es.length<=1000) (H:∀ x∈es,LenE x):∃ v:Bool,Cal 17 [V.one (iX most),V.one (X.d (D.list 8 (E.rows es)))] [] (RV (V.one (bX v)))∧(v=true->Int.ofNat (wEs es)<=most):=by
 have key:∀ (d i:Nat),i<=es.length->es.length - i=d->∀ n:Int,∃ v:Bool,Ev (fun m k n'=>kwc m (Ak k) n' most (E.rows es) n (Int.ofNat i)) (RV (V.one (bX v))) ∧
  (0<=n->n<=1000000+562949953421312*Int.ofNat i->v=true->n+Int.ofNat (wEs (es.drop i))<=most):=by
  intro d
  induction d with
  | zero =>
   intro i hi hd n
   refine ⟨decide (n<=most),Ev.step ?_,fun _ _ h=>?_⟩
   · simp only [koC,E.rows_len]
     exact Ev.no (kba i _ (by omega)) (Ev.of fun m k n'=>by rw [kwg])
   · rw [List.drop_eq_nil_of_le (by omega),kbx]
     have:=of_decide_eq_true h
     simpa using this
  | succ d ih =>
   intro i hi hd n
   have hlt:i < es.length:=by omega
   obtain ⟨v,hv,hm⟩:=kx4 es[i] (H _ (List.getElem_mem hlt)) n most
   obtain ⟨w,hw,hmw⟩:=ih (i+1) (by omega) (by omega) v
   refine ⟨w,Ev.step ?_,fun h0 h1 h2=>?_⟩
   · simp only [koC,E.rows_len]
     refine Ev.yes (kaz i _ hlt) ?_
     simp only [kwf,tn,E.rows_at es i hlt,E.row_eq,E.rows_len]
     refine Ev.yes (kak i _ hlt) (v_oI hv ?_)
     simp only [kwh,kap i (show i < 9223372036854775807 by omega)]
     exact hw
   · simp only [Int.ofNat_eq_natCast] at *
     obtain ⟨a1,a2,a3⟩:=hm h0 (by omega) (by omega)
     have:=hmw (by omega) (by omega) h2
     rw [List.drop_eq_getElem_cons hlt,kaN]
     have:=a3 (by omega)
     simp only [Int.ofNat_eq_natCast] at *
     omega
 obtain ⟨v,hv,hm⟩:=key _ 0 (Nat.zero_le _) rfl 0
 refine ⟨v,kGF _ _ ?_,fun h=>?_⟩
 · simp only [kGC]
   exact Ev.diag hv
 · have:=hm (Int.le_refl _) (by simp only [Int.ofNat_eq_natCast];omega) h
   rw [List.drop_zero] at this
   omega
theorem cy {α:Type} {c:Bool} {a b o:α} (h:c=true) (h2:a=o):(bif c then a else b)=o:=by rw [h];exact h2
theorem cn {α:Type} {c:Bool} {a b o:α} (h:c=false) (h2:b=o):(bif c then a else b)=o:=by rw [h];exact h2
theorem drows (s:Nat) (r:List (List D)):D.rows (D.list s r)=r:=rfl
theorem room (n c:Nat) (hn:n<=1000000) (hc:c<=1000):(true&&true&&true&&Nat.ble ((n+1)*c) 140737488355328)=true:=by
 have:=roomy n c hn hc
 rw [this]
 rfl
theorem khs (b:List UInt8) (h:20000 < b.length):Cal 25 [V.one (X.ptr 0 0)] (BR b) (Out.mk true (V.tup [V.one (sX []),V.one (iX 2)]) D.junk [[X.slf 0,X.own 0 5 1 (kay b)]] 1):=by
 refine ky8 _ ?_
 simp only [ky7]
 exact kcq (kir b) (Ev.yes (decide_eq_true (by show (20000:Int) < Int.ofNat _;simp only [Int.ofNat_eq_natCast];omega)) (Ev.ret _))
theorem kDl (b:List UInt8) (h:b ≠ []):Cal 60 [V.one (X.ptr 0 0)] (BR b) (Out.mk true (V.one (sX b)) D.junk [[X.slf 0,X.d D.junk]] 0):=by
 refine ⟨1,fun m k n' _ hk _=>?_⟩
 obtain ⟨k,rfl⟩:∃ k',k=k'+1:=⟨k - 1,by omega⟩
 refine (kdj (by kernel_rfl)).trans ?_
 show (keG (kay b)).bind (fun l=>cond (!l.isEmpty) (some (Out.mk true (dv (.str ⟨l.toArray⟩)) .junk [[.slf 0,.d .junk]] 0)) none)=_
 rw [knH,Option.bind_some]
 cases b with
 | nil=>exact absurd rfl h
 | cons x r=>rfl
theorem kgr (b:List UInt8) (h:b.length<=20000) (h0:b ≠ []):Cal 25 [V.one (X.ptr 0 0)] (BR b) (Out.mk true (V.tup [V.one (sX b),V.one (iX 0)]) D.junk [[X.slf 0,X.d D.junk]] 0):=by
 refine ky8 _ ?_
 simp only [ky7]
 refine kcq (kir b) (Ev.no (decide_eq_false (by show ¬ (20000:Int) < Int.ofNat _;simp only [Int.ofNat_eq_natCast];omega)) ?_)
 simp only [kvU]
 exact kpM (kDl b h0) (Ev.ret _)
def pr (e:E):List UInt8 × Int:=if kaH 40 e=true then (if 20000 < (tE e).length then ([],2) else (tE e,0)) else ([],1)
abbrev prV (x:List UInt8 × Int):V:=V.tup [V.one (sX x.1),V.one (iX x.2)]
theorem kAa (e:E) (hl:LenE e):Cal 14 [eV e] [] (RV (prV (pr e))):=by
 refine kGn _ _ _ _ _ _ _ _ ?_
 simp only [kGd]
 refine v_oB (keS e hl) ?_
 unfold pr
 cases h:kaH 40 e with
 | false=>exact Ev.yes rfl (Ev.ret _)
 | true =>
  refine Ev.no rfl ?_
  rw [if_pos rfl]
  simp only [kvS]
  obtain ⟨b,hb,he⟩:=C_wx 40 e h hl 0 [] (by omega)
  rw [kax] at hb
  obtain ⟨h1,h2⟩:=hb.done
  refine kbE he ?_
  by_cases hlen:20000 < b.length
  · rw [if_pos (h2 hlen)]
    exact keM (khs b hlen) (Ev.ret _)
  · have:=h1 (by omega)
    subst this
    rw [if_neg hlen]
    exact keL (kgr _ (by omega) (km3 40 e h).2) (Ev.ret _)
theorem kgK:Cal 7 [] [] (YB true):=⟨100,fun m k n _ hk _=>by
 obtain ⟨j,rfl⟩:∃ j,k=j+100:=⟨k - 100,by omega⟩
 exact ksL j⟩
theorem kqF:Cal 54 [V.one (X.nilL 1),V.one (sX [44,32])] [] (YS []):=by
 refine ⟨1,fun m k n' _ hk _=>?_⟩
 obtain ⟨k,rfl⟩:∃ k',k=k'+1:=⟨k - 1,by omega⟩
 refine (kdj (by kernel_rfl)).trans ?_
 rfl
theorem C_tt:∀ (d:Nat) (t:T),ka8 d t=true->(tT t).length<=1000000->Cal 23 [tV t] [] (YS (tT t))
 | 0,.mk ..,h,_=>by rw [ka8] at h;cases h
 | d+1,.mk k l,h,hm=>by
  rw [ka8,Bool.and_eq_true] at h
  have hr:=kct h.2
  have h1:=h.1
  have hl4:l.length<=4:=by
   revert h1
   split
   · intro h;rw [List.isEmpty_iff.1 h];decide
   split
   · intro h;rw [Bool.and_eq_true,decide_eq_true_eq,decide_eq_true_eq] at h;exact h.2
   split
   · intro h;rw [decide_eq_true_eq] at h;omega
   · intro h;cases h
  have hd1:(k=1∨k=2) ↔ l=[]:=by
   revert h1
   split
   · rename_i hk;intro h;exact ⟨fun _=>List.isEmpty_iff.1 h,fun _=>hk⟩
   rename_i hk
   split
   · intro hz2
     refine ⟨fun h=>absurd h hk,fun h=>?_⟩
     subst h;simp at hz2
   split
   · intro hz2
     refine ⟨fun h=>absurd h hk,fun h=>?_⟩
     subst h;simp at hz2
   · intro h;cases h
  refine kFZ _ _ ?_
  simp only [kFX,T.rows_len]
  have IH:∀ x∈l,(tT x).length<=(tT (.mk k l)).length->Cal 23 [tV x] [] (YS (tT x)):=fun x hx hlx=>C_tt d x (hr x hx) (Nat.le_trans hlx hm)
  have kid:∀ x∈l,(tT x).length<=(tT (.mk k l)).length:=fun x hx=>by
   have:=kz8 (l.map tT) (tT x) (List.mem_map_of_mem hx)
   have hne:¬ (k=1∨k=2):=fun e=>by rw [hd1.1 e] at hx;cases hx
   rw [ktZ,if_neg (fun e=>hne (.inl e)),if_neg (fun e=>hne (.inr e))]
   split<;>(simp only [List.length_append];omega)
  have last:l ≠ []->Ev (fun _ k' n=>kgU (Ak k') n (strs (l.map tT)) k (T.rows l)) (YS (tT (.mk k l))):=fun hne=>by
   have hk:¬ (k=1∨k=2):=fun e=>hne (hd1.1 e)
   have k1:k ≠ 1:=fun e=>hk (.inl e)
   have k2:k ≠ 2:=fun e=>hk (.inr e)
   have k34:k=3∨k=4:=by
    rw [if_neg hk] at h1
    by_cases k3:k=3
    · exact .inl k3
    · rw [if_neg k3] at h1
      by_cases k4:k=4
      · exact .inr k4
      · rw [if_neg k4] at h1;cases h1
   rw [ktZ,if_neg k1,if_neg k2] at hm ⊢
   simp only [kmo,klB]
   have hc:(cms (l.map tT)).length<=1000000:=by
    revert hm
    split<;>(simp only [List.length_append];omega)
   refine v_oS (kqA _ (by rw [List.length_map];omega) (by omega)) ?_
   refine Ev.no (decide_eq_false k1) (Ev.no (decide_eq_false k2) ?_)
   rcases k34 with rfl | rfl
   · refine Ev.yes rfl (Ev.yes (klF (by simp only [kau];omega)) (Ev.yes (klF (by simp only [lit,kcv,kau,List.length_append,List.length_cons,List.length_nil];omega)) (Ev.rs ?_)))
     simp only [lit,kcv,if_true]
   · refine Ev.no rfl (Ev.yes rfl (Ev.yes (klF (by simp only [kau];omega)) (Ev.yes (klF (by simp only [lit,kcv,kau,List.length_append,List.length_cons,List.length_nil];omega)) (Ev.rs ?_))))
     rw [if_neg (by decide)]
     simp only [lit,kcv]
  have loop:∀ (z i:Nat),0 < i->i<=l.length->l.length - i=z->Ev (fun m k' n=>kjW m (Ak k') n (strs ((l.take i).map tT)) (T.rows l) (Int.ofNat l.length) (Int.ofNat i) k (T.rows l)) (YS (tT (.mk k l))):=by
   intro z
   induction z with
   | zero =>
    intro i hp hi hz
    obtain rfl:i=l.length:=by omega
    refine Ev.step ?_
    simp only [kh1,T.rows_len]
    refine Ev.no (kba _ _ (Nat.le_refl _)) ?_
    rw [List.take_length]
    exact Ev.diag' (F:=fun m k' n=>kgU (Ak k') n (strs (l.map tT)) k (T.rows l)) (last fun e=>by rw [e] at hp;exact absurd hp (by simp))
   | succ z ih =>
    intro i hp hi hz
    have hlt:i < l.length:=by omega
    have nx:=ih (i+1) (by omega) (by omega) (by omega)
    rw [List.take_succ_eq_append_getElem hlt,List.map_append,List.map_cons,List.map_nil,km8] at nx
    refine Ev.step ?_
    simp only [kh1,T.rows_len]
    refine Ev.yes (kaz i _ hlt) ?_
    simp only [kmn,tn,T.rows_at l i hlt,T.row_eq,T.rows_len]
    refine Ev.yes (kak i _ hlt) (v_oS (IH _ (List.getElem_mem hlt) (kid _ (List.getElem_mem hlt))) ?_)
    refine Ev.yes (by rw [kbA,List.length_map,List.length_take];exact room (min i l.length) 17 (by omega) (by omega)) ?_
    simp only [kor,kap i (show i < 9223372036854775807 by omega)]
    exact nx
  have first:Ev (fun m k' n=>kBN m (Ak k') n (T.rows l) (Int.ofNat l.length) 0 k (T.rows l)) (YS (tT (.mk k l))):=by
   refine Ev.step ?_
   simp only [kvF,T.rows_len]
   by_cases h0:0 < l.length
   · have nx:=loop _ 1 (by omega) (by omega) rfl
     rw [List.take_succ_eq_append_getElem h0,List.take_zero,List.nil_append,List.map_cons,List.map_nil] at nx
     refine Ev.yes (kaz 0 _ h0) ?_
     have hat:=T.rows_at l 0 h0
     simp only [kvG,show Int.toNat 0=0 from rfl,hat,T.row_eq,T.rows_len]
     refine Ev.yes (kak 0 _ h0) (v_oS (IH _ (List.getElem_mem h0) (kid _ (List.getElem_mem h0))) ?_)
     simp only [kor,show IntKind.wrap .i64 (0+1)=Int.ofNat 1 from kap 0 (by decide)]
     exact nx
   · have hn:l=[]:=List.eq_nil_of_length_eq_zero (by omega)
     have hk:=hd1.2 hn
     subst hn
     refine Ev.no rfl ?_
     rw [ktZ]
     simp only [kvH,klB]
     refine v_oS kqF ?_
     rcases hk with rfl | rfl
     · rw [if_pos rfl]
       exact Ev.yes rfl (Ev.ret _)
     · rw [if_neg (by decide),if_pos rfl]
       exact Ev.no rfl (Ev.yes rfl (Ev.ret _))
  exact Ev.diag' first
end Go.Proofs.YtaphnbaiamnfpaaGreatDoor.Ps
namespace Go.Proofs.YtaphnbaiamnfpaaGreatDoor.Ps
set_option linter.unusedVariables false
set_option linter.unusedSimpArgs false
set_option maxRecDepth 4000
open Go Go.RowKit Px
open Lx (Tok)
def trim (s:List UInt8):List UInt8 × Int:=if 20000 < s.length then ([],2) else (s,0)
def prP (p:Pg):List UInt8 × Int:=if kbT p=true then trim (tP p) else ([],1)
theorem kDm {f:Fld} (h:kbu f=true) (hw:wT f.typ<=100000):Cal 23 [tV f.typ] [] (YS (tT f.typ))∧(tT f.typ).length<=1000000∧f.name.length<=24:=by
 unfold kbu at h
 rw [Bool.and_eq_true] at h
 have h1:=kaQ h.1
 have h2:=ki8 40 _ h.2
 exact ⟨C_tt 40 f.typ h.2 (by omega),by omega,h1⟩
section
variable (p:Pg) (h:LenP p) (hr:kbT p=true) (m:Mild p)
include h hr m
theorem kpc:Cal 8 [pV p] [] (RV (prV (trim (tP p)))):=by
 have hrr:=hr
 unfold kbT at hrr
 simp only [Bool.and_eq_true,List.all_eq_true] at hrr
 obtain ⟨⟨h1,h2⟩,h3⟩:=hrr
 have il:=m.il
 have fl:=m.fl
 refine kGm _ _ _ _ _ _ _ _ _ _ ?_
 simp only [kGc]
 refine v_oB (kjh p h) ?_
 rw [hr]
 refine Ev.no rfl ?_
 generalize hW:tP p=whole
 have last:∀ acc b,W [] acc b->acc++tE p.query++[10]=whole->Ev (fun _ k n=>kBU (Ak k) n (Fld.rows p.inputs) (Fnc.rows p.funs) p.query.k p.query.n (bx p.query.name) (strs p.query.names) (ints p.query.odds) (E.rows p.query.kids) p.query.line p.query.col (kay b)) (RV (prV (trim whole))):=fun acc b hb ha=>by
  obtain ⟨b1,w1,e1⟩:=C_wx 40 p.query h3 h.query 0 b (by omega)
  rw [kax] at w1
  obtain ⟨b2,w2,e2⟩:=kaB [[10]] b1 ⟨by decide,trivial⟩ (Nat.le_of_ble_eq_true rfl)
  have hb2:=((hb.seq w1).seq w2).done
  have hs:acc++tE p.query++[[10]].flatten=whole:=ha
  rw [hs] at hb2
  simp only [kvV]
  refine kbE e1 (kbE e2 ?_)
  unfold trim
  by_cases hlen:20000 < b2.length
  · rw [if_pos (hb2.2 hlen)]
    exact keM (khs b2 hlen) (Ev.ret _)
  · have:=hb2.1 (by omega)
    subst this
    rw [if_neg hlen]
    exact keL (kgr _ (by omega) (by rw [<- hs];simp)) (Ev.ret _)
 have funs:∀ (d i:Nat) (acc b:List UInt8),i<=p.funs.length->p.funs.length - i=d->W [] acc b->acc++tFns (p.funs.drop i)++tE p.query++[10]=whole ->
  Ev (fun m k n=>l8_1 m (Ak k) n (Fnc.rows p.funs) (Int.ofNat p.funs.length) (Int.ofNat i) (Fld.rows p.inputs) (Fnc.rows p.funs) p.query.k p.query.n (bx p.query.name) (strs p.query.names) (ints p.query.odds) (E.rows p.query.kids) p.query.line p.query.col (kay b)) (RV (prV (trim whole))):=by
  intro d
  induction d with
  | zero =>
   intro i acc b hi hd hb ha
   rw [List.drop_eq_nil_of_le (by omega),tFns,List.append_nil] at ha
   refine Ev.step ?_
   simp only [ksQ]
   exact Ev.no (kba i _ (by omega)) (Ev.diag' (last acc b hb ha))
  | succ d ih =>
   intro i acc b hi hd hb ha
   have hlt:i < p.funs.length:=by omega
   obtain ⟨g,hg⟩:∃ g,g=p.funs[i]:=⟨_,rfl⟩
   have hgm:g∈p.funs:=by rw [hg];exact List.getElem_mem hlt
   have hgr:=h2 g hgm
   unfold kby at hgr
   simp only [Bool.and_eq_true,List.all_eq_true] at hgr
   have hgl:=h.fn g hgm
   have pl:=m.par g hgm
   have b1:=kaQ hgr.1.1.2
   have b2:=ki8 40 _ hgr.1.2
   have b4:=m.res g hgm
   rw [List.drop_eq_getElem_cons hlt,<- hg,tFns] at ha
   refine Ev.step ?_
   simp only [ksQ]
   refine Ev.yes (kaz i _ hlt) ?_
   simp only [kB1,tn,Fnc.rows_at p.funs i hlt,<- hg,Fnc.row_eq,List.getD_cons_succ,List.getD_cons_zero,Fnc.rows_len,drows',Fld.rows_len]
   obtain ⟨c1,w1,e1⟩:=kaB [[102,117,110,32],g.name,[40]] b ⟨by decide,by omega,by decide,trivial⟩ (Nat.le_of_ble_eq_true rfl)
   refine Ev.yes (kak i _ hlt) (kbE e1 (Ev.yes rfl ?_))
   have pars:∀ (d j:Nat) (s c:List UInt8),j<=g.params.length->g.params.length - j=d->W [] s c->s++tl j ((g.params.drop j).map tF)=acc++[102,117,110,32]++g.name++[40]++cms (g.params.map tF) ->
    Ev (fun m k n=>l8_2 m (Ak k) (m+j) n (Fnc.rows p.funs) (Int.ofNat p.funs.length) (Int.ofNat i) (D.list 5 (Fld.rows g.params)) (Int.ofNat g.params.length) (Int.ofNat j) (Fld.rows p.inputs) (Fnc.rows p.funs) p.query.k p.query.n (bx p.query.name) (strs p.query.names) (ints p.query.odds) (E.rows p.query.kids) p.query.line p.query.col (kay c) (D.str (bx g.name)) (D.list 5 (Fld.rows g.params)) (D.int .i64 g.res.k) (D.list 2 (T.rows g.res.l)) (D.int .i64 g.body.k) (D.int .i64 g.body.n) (D.str (bx g.body.name)) (D.list 1 (strs g.body.names)) (D.list 1 (ints g.body.odds)) (D.list 8 (E.rows g.body.kids)) (D.int .i64 g.body.line) (D.int .i64 g.body.col) (D.int .i64 g.line) (D.int .i64 g.col)) (RV (prV (trim whole))):=by
    intro d
    induction d with
    | zero =>
     intro j s c hj hd hw hc
     rw [List.drop_eq_nil_of_le (by omega),List.map_nil,kxZ,List.append_nil] at hc
     subst hc
     refine Ev.step ?_
     simp only [ksR]
     refine Ev.no (kba j _ (by omega)) ?_
     have fin:Ev (fun m k n=>q8_8 (Ak k) m n (Fnc.rows p.funs) (Int.ofNat p.funs.length) (Int.ofNat i) (Fld.rows p.inputs) (Fnc.rows p.funs) p.query.k p.query.n (bx p.query.name) (strs p.query.names) (ints p.query.odds) (E.rows p.query.kids) p.query.line p.query.col (kay c) (D.str (bx g.name)) (D.list 5 (Fld.rows g.params)) (D.int .i64 g.res.k) (D.list 2 (T.rows g.res.l)) (D.int .i64 g.body.k) (D.int .i64 g.body.n) (D.str (bx g.body.name)) (D.list 1 (strs g.body.names)) (D.list 1 (ints g.body.odds)) (D.list 8 (E.rows g.body.kids)) (D.int .i64 g.body.line) (D.int .i64 g.body.col) (D.int .i64 g.line) (D.int .i64 g.col)) (RV (prV (trim whole))):=by
      simp only [kB3]
      obtain ⟨d1,v1,f1⟩:=kaB [[41,58,32],tT g.res,[32,61,32]] c ⟨by decide,by omega,by decide,trivial⟩ (Nat.le_of_ble_eq_true rfl)
      obtain ⟨d2,v2,f2⟩:=C_wx 40 g.body hgr.2 hgl.body 0 d1 (by omega)
      rw [kax] at v2
      obtain ⟨d3,v3,f3⟩:=kaB [[59,10]] d2 ⟨by decide,trivial⟩ (Nat.le_of_ble_eq_true rfl)
      refine v_oS (C_tt 40 g.res hgr.1.2 (by omega)) (kbE f1 (kbE f2 (kbE f3 ?_)))
      simp only [kB5,kap i (show i < 9223372036854775807 by omega)]
      refine ih (i+1) _ _ (by omega) (by omega) (((hw.seq v1).seq v2).seq v3) ?_
      rw [<- ha]
      simp only [tFn,List.append_assoc,List.flatten_cons,List.flatten_nil,List.append_nil,List.cons_append,List.nil_append]
     exact Ev.of_eq (fun m k n=>by rw [Nat.add_assoc m 1]) (fin.shift (1+j))
    | succ d ihj =>
     intro j s c hj hd hw hc
     have hjt:j < g.params.length:=by omega
     have hfm:=List.getElem_mem hjt
     obtain ⟨ft,fl1,fl2⟩:=kDm (hgr.1.1.1 _ hfm) (m.typ g hgm _ hfm)
     rw [List.drop_eq_getElem_cons hjt,List.map_cons,kqz,<- List.append_assoc,<- List.append_assoc] at hc
     refine Ev.step ?_
     simp only [ksR]
     refine Ev.yes (kaz j _ hjt) ?_
     simp only [kB2,tn,drows',Fld.rows_at g.params j hjt,Fld.row_eq,Fld.rows_len,List.getD_cons_succ,List.getD_cons_zero]
     have mid:∀ c,W [] (s++sep j) c->Ev (fun m k n=>q8_6 (Ak k) m (m+1+j) n (Fnc.rows p.funs) (Int.ofNat p.funs.length) (Int.ofNat i) (D.list 5 (Fld.rows g.params)) (Int.ofNat g.params.length) (Int.ofNat j) (Fld.rows p.inputs) (Fnc.rows p.funs) p.query.k p.query.n (bx p.query.name) (strs p.query.names) (ints p.query.odds) (E.rows p.query.kids) p.query.line p.query.col (kay c) (D.str (bx g.name)) (D.list 5 (Fld.rows g.params)) (D.int .i64 g.res.k) (D.list 2 (T.rows g.res.l)) (D.int .i64 g.body.k) (D.int .i64 g.body.n) (D.str (bx g.body.name)) (D.list 1 (strs g.body.names)) (D.list 1 (ints g.body.odds)) (D.list 8 (E.rows g.body.kids)) (D.int .i64 g.body.line) (D.int .i64 g.body.col) (D.int .i64 g.line) (D.int .i64 g.col) (D.str (bx g.params[j].name)) (D.int .i64 g.params[j].typ.k) (D.list 2 (T.rows g.params[j].typ.l)) (D.int .i64 g.params[j].line) (D.int .i64 g.params[j].col)) (RV (prV (trim whole))):=fun c hw=>by
      simp only [kB4]
      obtain ⟨d1,v1,f1⟩:=kaB [g.params[j].name,[58,32],tT g.params[j].typ] c ⟨by omega,by decide,by omega,trivial⟩ (Nat.le_of_ble_eq_true rfl)
      refine v_oS ft (kbE f1 ?_)
      simp only [kB6,kap j (show j < 9223372036854775807 by omega)]
      refine Ev.of_eq (fun m k n=>by rw [Nat.add_assoc m 1 j,Nat.add_comm 1 j]) (ihj (j+1) _ _ (by omega) (by omega) (hw.seq v1) ?_)
      rw [<- hc]
      simp only [tF,List.append_assoc,List.flatten_cons,List.flatten_nil,List.append_nil,List.cons_append,List.nil_append]
     refine Ev.yes rfl (Ev.yes (kak j _ hjt) ?_)
     by_cases h0:j=0
     · subst h0
       exact Ev.no rfl (mid c (by simpa only [sep,if_true,List.append_nil] using hw))
     · refine Ev.yes (decide_eq_true (by show (0:Int) < Int.ofNat j;simp only [Int.ofNat_eq_natCast];omega)) ?_
       have hs:sep j=[44,32]:=if_neg h0
       obtain ⟨d1,v1,f1⟩:=kaB [[44,32]] c ⟨by decide,trivial⟩ (Nat.le_of_ble_eq_true rfl)
       exact kbE f1 (mid d1 (by rw [hs];exact hw.seq v1))
   have key:=pars _ 0 (acc++[102,117,110,32]++g.name++[40]) c1 (Nat.zero_le _) rfl (by
    have:=hb.seq w1
    simpa only [List.append_assoc,List.flatten_cons,List.flatten_nil,List.append_nil,List.cons_append,List.nil_append] using this) (by rw [List.drop_zero];rfl)
   exact key
 have ins:∀ (d i:Nat) (acc b:List UInt8),i<=p.inputs.length->p.inputs.length - i=d->W [] acc b->acc++tIs (p.inputs.drop i)++tFns p.funs++tE p.query++[10]=whole ->
  Ev (fun m k n=>l8_0 m (Ak k) n (Fld.rows p.inputs) (Int.ofNat p.inputs.length) (Int.ofNat i) (Fld.rows p.inputs) (Fnc.rows p.funs) p.query.k p.query.n (bx p.query.name) (strs p.query.names) (ints p.query.odds) (E.rows p.query.kids) p.query.line p.query.col (kay b)) (RV (prV (trim whole))):=by
  intro d
  induction d with
  | zero =>
   intro i acc b hi hd hb ha
   rw [List.drop_eq_nil_of_le (by omega),tIs,List.append_nil] at ha
   refine Ev.step ?_
   simp only [ksP]
   refine Ev.no (kba i _ (by omega)) ?_
   simp only [kBZ,Fnc.rows_len]
   exact Ev.diag' (funs _ 0 acc b (Nat.zero_le _) rfl hb (by rw [List.drop_zero];exact ha))
  | succ d ih =>
   intro i acc b hi hd hb ha
   have hlt:i < p.inputs.length:=by omega
   have hfm:=List.getElem_mem hlt
   obtain ⟨ft,fl1,fl2⟩:=kDm (h1 _ hfm) (m.inp _ hfm)
   rw [List.drop_eq_getElem_cons hlt,tIs] at ha
   refine Ev.step ?_
   simp only [ksP]
   refine Ev.yes (kaz i _ hlt) ?_
   simp only [kBY,tn,Fld.rows_at p.inputs i hlt,Fld.row_eq,List.getD_cons_succ,List.getD_cons_zero,Fld.rows_len]
   obtain ⟨d1,v1,f1⟩:=kaB [[105,110,112,117,116,32],p.inputs[i].name,[58,32],tT p.inputs[i].typ,[59,10]] b ⟨by decide,by omega,by decide,by omega,by decide,trivial⟩ (Nat.le_of_ble_eq_true rfl)
   refine Ev.yes (kak i _ hlt) (v_oS ft (kbE f1 ?_))
   simp only [kB0,kap i (show i < 9223372036854775807 by omega)]
   refine ih (i+1) _ _ (by omega) (by omega) (hb.seq v1) ?_
   rw [<- ha]
   simp only [tI,tF,List.append_assoc,List.flatten_cons,List.flatten_nil,List.append_nil,List.cons_append,List.nil_append]
 simp only [kBX,Fld.rows_len]
 refine Ev.diag' (ins _ 0 [] [] (Nat.zero_le _) rfl (.nil []) ?_)
 rw [List.drop_zero,<- hW]
 rfl
end
end Go.Proofs.YtaphnbaiamnfpaaGreatDoor.Ps
namespace Go.Proofs.YtaphnbaiamnfpaaGreatDoor.Ps
set_option linter.unusedVariables false
set_option linter.unusedSimpArgs false
open Go Go.RowKit Px
open Lx (Tok)
def kAb (n most v:Int) (w:Nat):Prop:=0<=n->n<=1152921504606846976->most<=1152921504606846976->n<=v∧(v<=n+1∨v<=most+1)∧(v<=most->v=n+Int.ofNat w)
theorem kAc (k₀:Int) (l:List T) (hk:l.length<=140737488351232) (most:Int) (H:∀ x∈l,∀ n,∃ v:Int,Cal 50 [tV x,V.one (iX n),V.one (iX most)] [] (RV (V.one (iX v)))∧kAb n most v (wT x)):∀ (d i:Nat),i<=l.length->l.length - i=d->∀ n:Int,
 ∃ v:Int,Ev (fun m k n'=>kgZ m (Ak k) n' n most (Int.ofNat i) k₀ (T.rows l)) (RV (V.one (iX v))) ∧
  (0<=n->most<=1152921504606846976->n<=v∧(v<=n∨v<=most+1)∧(v<=most->v=n+Int.ofNat (wTs (l.drop i)))):=by
 intro d
 induction d with
 | zero =>
  intro i hi hd n
  refine ⟨n,Ev.step ?_,fun _ _=>⟨Int.le_refl _,.inl (Int.le_refl _),fun _=>?_⟩⟩
  · simp only [ke4,T.rows_len]
    exact Ev.no (kba i _ (by omega)) (Ev.of fun m k n'=>by rw [koF])
  · rw [List.drop_eq_nil_of_le (by omega),kg8];simp
 | succ d ih =>
  intro i hi hd n
  have hlt:i < l.length:=by omega
  by_cases hn:n<=most
  · obtain ⟨v,hv,hm⟩:=H l[i] (List.getElem_mem hlt) n
    obtain ⟨w,hw,hmw⟩:=ih (i+1) (by omega) (by omega) v
    refine ⟨w,Ev.step ?_,fun h0 h1=>?_⟩
    · simp only [ke4,T.rows_len]
      refine Ev.yes (kaz i _ hlt) (Ev.yes (decide_eq_true hn) ?_)
      simp only [kwk,tn,T.rows_at l i hlt,T.row_eq,T.rows_len]
      refine Ev.yes (kak i _ hlt) (v_oI hv ?_)
      simp only [kwl,kap i (show i < 9223372036854775807 by omega)]
      exact hw
    · obtain ⟨a1,a2,a3⟩:=hm h0 (by omega) h1
      obtain ⟨b1,b2,b3⟩:=hmw (by omega) h1
      rw [List.drop_eq_getElem_cons hlt,ke8]
      simp only [Int.ofNat_eq_natCast] at *
      exact ⟨by omega,by omega,fun h=>by have:=b3 h;have:=a3 (by omega);omega⟩
  · refine ⟨n,Ev.step ?_,fun _ _=>⟨Int.le_refl _,.inl (Int.le_refl _),fun h=>absurd h hn⟩⟩
    simp only [ke4,T.rows_len]
    exact Ev.yes (kaz i _ hlt) (Ev.no (decide_eq_false hn) (Ev.of fun m k n'=>by rw [koF]))
mutual
theorem kqG:∀ (t:T),LenT t->∀ n most:Int,∃ v:Int,Cal 50 [tV t,V.one (iX n),V.one (iX most)] [] (RV (V.one (iX v)))∧kAb n most v (wT t)
 | .mk k l,h=>fun n most=>by
  rw [LenT] at h
  obtain ⟨hks,hkk⟩:=h
  have H:=kne l hkk
  obtain ⟨v,hv,hm⟩:=kAc k l hks most (fun x hx n=>H x hx n most) _ 0 (Nat.zero_le _) rfl (IntKind.wrap .i64 (n+1))
  refine ⟨v,ks9 _ _ _ _ ?_,fun h0 h1 h2=>?_⟩
  · simp only [ks7]
    exact Ev.diag hv
  · rw [wrap_in (n+1) (by omega) (by omega)] at hm
    obtain ⟨a1,a2,a3⟩:=hm (by omega) h2
    rw [kzB]
    simp only [Int.ofNat_eq_natCast] at *
    refine ⟨by omega,by omega,fun h=>?_⟩
    have:=a3 h
    rw [List.drop_zero] at this
    omega
theorem kne:∀ (ks:List T),kfg ks->∀ x∈ks,∀ n most:Int,∃ v:Int,Cal 50 [tV x,V.one (iX n),V.one (iX most)] [] (RV (V.one (iX v)))∧kAb n most v (wT x)
 | [],_,x,hx=>by cases hx
 | z :: r,hs,x,hx=>by
  rw [kfg] at hs
  rcases List.mem_cons.1 hx with h | h
  · rw [h];exact kqG z hs.1
  · exact kne r hs.2 x h
end
theorem kAd (most:Int) (hmost:most<=1000000) (ts:List T) (hl:ts.length<=1000000) (H:∀ x∈ts,LenT x):∃ v:Bool,Cal 18 [V.one (iX most),V.one (X.d (D.list 2 (T.rows ts)))] [] (RV (V.one (bX v)))∧(v=true->Int.ofNat (wTs ts)<=most):=by
 have key:∀ (d i:Nat),i<=ts.length->ts.length - i=d->∀ n:Int,∃ v:Bool,Ev (fun m k n'=>kgY m (Ak k) n' most (T.rows ts) n (Int.ofNat i)) (RV (V.one (bX v))) ∧
  (0<=n->n<=1000000+Int.ofNat i->v=true->n+Int.ofNat (wTs (ts.drop i))<=most):=by
  intro d
  induction d with
  | zero =>
   intro i hi hd n
   refine ⟨decide (n<=most),Ev.step ?_,fun _ _ h=>?_⟩
   · simp only [kh6,T.rows_len]
     exact Ev.no (kba i _ (by omega)) (Ev.of fun m k n'=>by rw [koD])
   · rw [List.drop_eq_nil_of_le (by omega),kg8]
     have:=of_decide_eq_true h
     simpa using this
  | succ d ih =>
   intro i hi hd n
   have hlt:i < ts.length:=by omega
   obtain ⟨v,hv,hm⟩:=kqG ts[i] (H _ (List.getElem_mem hlt)) n most
   obtain ⟨w,hw,hmw⟩:=ih (i+1) (by omega) (by omega) v
   refine ⟨w,Ev.step ?_,fun h0 h1 h2=>?_⟩
   · simp only [kh6,T.rows_len]
     refine Ev.yes (kaz i _ hlt) ?_
     simp only [kmC,tn,T.rows_at ts i hlt,T.row_eq,T.rows_len]
     refine Ev.yes (kak i _ hlt) (v_oI hv ?_)
     simp only [kmD,kap i (show i < 9223372036854775807 by omega)]
     exact hw
   · simp only [Int.ofNat_eq_natCast] at *
     obtain ⟨a1,a2,a3⟩:=hm h0 (by omega) (by omega)
     have:=hmw (by omega) (by omega) h2
     rw [List.drop_eq_getElem_cons hlt,ke8]
     have:=a3 (by omega)
     simp only [Int.ofNat_eq_natCast] at *
     omega
 obtain ⟨v,hv,hm⟩:=key _ 0 (Nat.zero_le _) rfl 0
 refine ⟨v,ks8 _ _ ?_,fun h=>?_⟩
 · simp only [ks6]
   exact Ev.diag hv
 · have:=hm (Int.le_refl _) (by simp only [Int.ofNat_eq_natCast];omega) h
   rw [List.drop_zero] at this
   omega
theorem kDn (most:Int):∃ v:Bool,Cal 18 [V.one (iX most),V.one (X.nilL 2)] [] (RV (V.one (bX v)))∧(v=true->(0:Int)<=most):=by
 refine ⟨decide ((0:Int)<=most),kGG _ ?_,of_decide_eq_true⟩
 simp only [kGD]
 have:Ev (fun m k n'=>kB8 m (Ak k) n' most 0 0) (RV (V.one (bX (decide ((0:Int)<=most))))):=by
  refine Ev.step ?_
  simp only [kwe]
  exact Ev.no rfl (Ev.of fun m k n'=>by rw [koD])
 exact Ev.diag this
theorem kqH:∀ {l:List E} {x:E},x∈l->wE x<=wEs l
 | y :: r,x,h=>by
  rw [kaN]
  rcases List.mem_cons.1 h with rfl | h
  · omega
  · have:=kqH h;omega
theorem kqI:∀ {l:List T} {x:T},x∈l->wT x<=wTs l
 | y :: r,x,h=>by
  rw [ke8]
  rcases List.mem_cons.1 h with rfl | h
  · omega
  · have:=kqI h;omega
def kht (x0:Int) (es:List E) (ts:List T) (gs:List Fnc):Prop :=
 (∀ x∈es,Int.ofNat (wE x)<=x0)∧(∀ x∈ts,Int.ofNat (wT x)<=x0)∧∀ g∈gs,g.params.length<=100∧Int.ofNat (wE g.body)<=x0∧Int.ofNat (wT g.res)<=x0∧∀ f∈g.params,Int.ofNat (wT f.typ)<=x0
theorem kht.nil {x0:Int} {es:List E} {ts:List T} (h:Int.ofNat (wEs es)<=x0) (h2:Int.ofNat (wTs ts)<=x0):kht x0 es ts [] :=
 ⟨fun x hx=>by have:=kqH hx;simp only [Int.ofNat_eq_natCast] at *;omega,fun x hx=>by have:=kqI hx;simp only [Int.ofNat_eq_natCast] at *;omega,fun g hg=>by cases hg⟩
theorem kht.fn {x0:Int} {es:List E} {ts:List T} {g:Fnc} {gs:List Fnc} (hp:g.params.length<=100) (h:kht x0 (es++[g.body]) ((ts++[g.res])++(g.params.drop 0).map (·.typ)) gs):kht x0 es ts (g :: gs):=by
 obtain ⟨h1,h2,h3⟩:=h
 rw [List.drop_zero] at h2
 refine ⟨fun x hx=>h1 x (by simp [hx]),fun x hx=>h2 x (by simp [hx]),fun y hy=>?_⟩
 rcases List.mem_cons.1 hy with rfl | hy
 · exact ⟨hp,h1 _ (by simp),h2 _ (by simp),fun f hf=>h2 _ (by simp only [List.mem_append,List.mem_map];exact .inr ⟨f,hf,rfl⟩)⟩
 · exact h3 y hy
section
variable (p:Pg) (x0:Int)
theorem kqJ (Γ:Bool->SemL) (m0 n0:Nat) (o:Option Out) (es:List E) (i:Nat) (hi:i < p.funs.length) (hl:p.funs[i].params.length<=100):∀ (d j:Nat) (ts:List T),j<=p.funs[i].params.length->p.funs[i].params.length - j=d->ts.length+d<=1000000 ->
 q6_8 Γ m0 n0 x0 (E.rows es) (T.rows (ts++(p.funs[i].params.drop j).map (·.typ))) (Int.ofNat i) (Fld.rows p.inputs) (Fnc.rows p.funs) p.query.k p.query.n (bx p.query.name) (strs p.query.names) (ints p.query.odds) (E.rows p.query.kids) p.query.line p.query.col=o ->
 ∀ m,d < m->l6_2 m Γ m0 n0 x0 (E.rows es) (T.rows ts) (Int.ofNat i) (Int.ofNat j) (Fld.rows p.inputs) (Fnc.rows p.funs) p.query.k p.query.n (bx p.query.name) (strs p.query.names) (ints p.query.odds) (E.rows p.query.kids) p.query.line p.query.col=o:=by
 intro d
 induction d with
 | zero =>
  intro j ts hj hd ht h m hm
  obtain ⟨m,rfl⟩:∃ m',m=m'+1:=⟨m - 1,by omega⟩
  rw [List.drop_eq_nil_of_le (by omega),List.map_nil,List.append_nil] at h
  rw [ks4]
  simp only [tn,Fnc.rows_len,Fnc.rows_at p.funs i hi,Fnc.row_eq,List.getD_cons_succ,List.getD_cons_zero,drows,Fld.rows_len]
  exact cy (kak i _ hi) (cy rfl (cn (kba j _ (by omega)) h))
 | succ d ih =>
  intro j ts hj hd ht h m hm
  obtain ⟨m,rfl⟩:∃ m',m=m'+1:=⟨m - 1,by omega⟩
  have hlt:j < p.funs[i].params.length:=by omega
  rw [ks4]
  simp only [tn,Fnc.rows_len,Fnc.rows_at p.funs i hi,Fnc.row_eq,List.getD_cons_succ,List.getD_cons_zero,drows,Fld.rows_len]
  refine cy (kak i _ hi) (cy rfl (cy (kaz j _ hlt) ?_))
  rw [kCi]
  simp only [tn,Fnc.rows_len,Fnc.rows_at p.funs i hi,Fnc.row_eq,List.getD_cons_succ,List.getD_cons_zero,drows,Fld.rows_len,Fld.rows_at p.funs[i].params j hlt,Fld.row_eq]
  refine cy (kak i _ hi) (cy rfl (cy (kak j _ hlt) (cy (by rw [T.rows_len];exact room ts.length 33 (by omega) (by omega)) ?_)))
  rw [kCj,kap j (show j < 9223372036854775807 by omega),<- T.rows_app]
  refine ih (j+1) (ts++[p.funs[i].params[j].typ]) (by omega) (by omega) (by rw [List.length_append,List.length_singleton];omega) ?_ m (by omega)
  rw [List.drop_eq_getElem_cons hlt,List.map_cons] at h
  rw [List.append_assoc]
  exact h
variable (hx0:x0<=1000000) (h:LenP p) (hi:p.inputs.length<=100) (hf:p.funs.length<=100)
include hx0 h hf
theorem knf:∀ (d i:Nat),i<=p.funs.length->p.funs.length - i=d->∀ (es:List E) (ts:List T),es.length<=1+i->ts.length<=200+200*i->(∀ x∈es,LenE x)->(∀ x∈ts,LenT x) ->
 ∃ v:Bool,Ev (fun m k n=>kj1 m (Ak k) n x0 (E.rows es) (T.rows ts) (Int.ofNat i) (Fld.rows p.inputs) (Fnc.rows p.funs) p.query.k p.query.n (bx p.query.name) (strs p.query.names) (ints p.query.odds) (E.rows p.query.kids) p.query.line p.query.col) (RV (V.one (bX v)))∧(v=true->kht x0 es ts (p.funs.drop i)):=by
 intro d
 induction d with
 | zero =>
  intro i hi hd es ts he ht hee htt
  obtain ⟨b,hb,hbm⟩:=kx5 x0 hx0 es (by omega) hee
  obtain ⟨c,hc,hcm⟩:=kAd x0 hx0 ts (by omega) htt
  refine ⟨b&&c,Ev.step ?_,fun hbc=>by
   rw [Bool.and_eq_true] at hbc
   rw [List.drop_eq_nil_of_le (by omega)]
   exact .nil (hbm hbc.1) (hcm hbc.2)⟩
  simp only [kgm,Fnc.rows_len]
  refine Ev.no (kba i _ (by omega)) ?_
  simp only [kpS]
  refine v_oB hb ?_
  cases b with
  | false=>exact Ev.no rfl (Ev.ret _)
  | true=>exact Ev.yes rfl (v_oB hc (Ev.ret _))
 | succ d ih =>
  intro i hi hd es ts he ht hee htt
  have hlt:i < p.funs.length:=by omega
  have hx:=h.fn _ (List.getElem_mem hlt)
  by_cases hp:100 < p.funs[i].params.length
  · refine ⟨false,Ev.step ?_,fun h=>by cases h⟩
    simp only [kgm,Fnc.rows_len]
    refine Ev.yes (kaz i _ hlt) ?_
    simp only [kiV,tn,Fnc.rows_len,Fnc.rows_at p.funs i hlt,Fnc.row_eq,List.getD_cons_succ,List.getD_cons_zero,drows,Fld.rows_len]
    exact Ev.yes (kak i _ hlt) (Ev.yes rfl (Ev.yes (decide_eq_true (by show (100:Int) < Int.ofNat _;simp only [Int.ofNat_eq_natCast];omega)) (Ev.ret _)))
  obtain ⟨v,⟨K,hK⟩,hvm⟩:=ih (i+1) (by omega) (by omega) (es++[p.funs[i].body]) ((ts++[p.funs[i].res])++(p.funs[i].params.drop 0).map (·.typ)) (by rw [List.length_append,List.length_singleton];omega)
   (by rw [List.drop_zero,List.length_append,List.length_append,List.length_singleton,List.length_map];omega)
   (fun x hxm=>by
    rcases List.mem_append.1 hxm with hxm | hxm
    · exact hee x hxm
    · rw [List.mem_singleton.1 hxm];exact hx.body)
   (fun x hxm=>by
    rcases List.mem_append.1 hxm with hxm | hxm
    · rcases List.mem_append.1 hxm with hxm | hxm
      · exact htt x hxm
      · rw [List.mem_singleton.1 hxm];exact hx.res
    · rw [List.drop_zero] at hxm
      obtain ⟨y,hy,rfl⟩:=List.mem_map.1 hxm
      exact hx.typ y hy)
  refine ⟨v,Ev.step ?_,fun hv=>by
   rw [List.drop_eq_getElem_cons hlt]
   exact .fn (by omega) (hvm hv)⟩
  simp only [kgm,Fnc.rows_len]
  refine Ev.yes (kaz i _ hlt) ?_
  simp only [kiV,tn,Fnc.rows_len,Fnc.rows_at p.funs i hlt,Fnc.row_eq,List.getD_cons_succ,List.getD_cons_zero,drows,Fld.rows_len]
  refine Ev.yes (kak i _ hlt) (Ev.yes rfl (Ev.no (decide_eq_false (by show ¬ (100:Int) < Int.ofNat _;simp only [Int.ofNat_eq_natCast];omega)) ?_))
  simp only [kpT,tn,Fnc.rows_len,Fnc.rows_at p.funs i hlt,Fnc.row_eq,List.getD_cons_succ,List.getD_cons_zero,drows,Fld.rows_len,E.rows_len,T.rows_len]
  refine Ev.yes (kak i _ hlt) (Ev.yes (room es.length 121 (by omega) (by omega)) (Ev.yes (kak i _ hlt) (Ev.yes (room ts.length 33 (by omega) (by omega)) ?_)))
  simp only [<- T.rows_app,<- E.rows_app]
  refine ⟨K+200,fun m k n h1 h2 h3=>kqJ p x0 (Ak k) m n _ _ i hlt (by omega) _ 0 _ (Nat.zero_le _) rfl (by rw [List.length_append,List.length_singleton];omega) ?_ m (by omega)⟩
  rw [ks5,kap i (show i < 9223372036854775807 by omega)]
  exact hK m k n (by omega) (by omega) (by omega)
theorem kqK (es:List E) (he:es.length<=1) (hee:∀ x∈es,LenE x) :
 ∃ v:Bool,Ev (fun m k n=>l6_1 m (Ak k) n x0 (E.rows es) (Int.ofNat 0) (Fld.rows p.inputs) (Fnc.rows p.funs) p.query.k p.query.n (bx p.query.name) (strs p.query.names) (ints p.query.odds) (E.rows p.query.kids) p.query.line p.query.col) (RV (V.one (bX v)))∧(v=true->kht x0 es [] p.funs):=by
 by_cases hlt:0 < p.funs.length
 rotate_left
 · obtain ⟨b,hb,hbm⟩:=kx5 x0 hx0 es (by omega) hee
   obtain ⟨c,hc,hcm⟩:=kDn x0
   refine ⟨b&&c,Ev.step ?_,fun hbc=>by
    rw [Bool.and_eq_true] at hbc
    rw [List.eq_nil_of_length_eq_zero (show p.funs.length=0 by omega)]
    exact .nil (hbm hbc.1) (by rw [kg8];exact hcm hbc.2)⟩
   simp only [kmB,Fnc.rows_len]
   refine Ev.no (kba 0 _ (by omega)) ?_
   simp only [kCg]
   refine v_oB hb ?_
   cases b with
   | false=>exact Ev.no rfl (Ev.ret _)
   | true=>exact Ev.yes rfl (v_oB hc (Ev.ret _))
 · have hx:=h.fn _ (List.getElem_mem hlt)
   by_cases hp:100 < p.funs[0].params.length
   · refine ⟨false,Ev.step ?_,fun h=>by cases h⟩
     simp only [kmB,Fnc.rows_len]
     refine Ev.yes (kaz 0 _ hlt) ?_
     simp only [ks3,tn,Fnc.rows_len,Fnc.rows_at p.funs 0 hlt,Fnc.row_eq,List.getD_cons_succ,List.getD_cons_zero,drows,Fld.rows_len]
     exact Ev.yes (kak 0 _ hlt) (Ev.yes rfl (Ev.yes (decide_eq_true (by show (100:Int) < Int.ofNat _;simp only [Int.ofNat_eq_natCast];omega)) (Ev.ret _)))
   obtain ⟨v,⟨K,hK⟩,hvm⟩:=knf p x0 hx0 h hf _ 1 (by omega) rfl (es++[p.funs[0].body]) ([p.funs[0].res]++(p.funs[0].params.drop 0).map (·.typ)) (by rw [List.length_append,List.length_singleton];omega)
    (by rw [List.drop_zero,List.length_append,List.length_singleton,List.length_map];omega)
    (fun x hxm=>by
     rcases List.mem_append.1 hxm with hxm | hxm
     · exact hee x hxm
     · rw [List.mem_singleton.1 hxm];exact hx.body)
    (fun x hxm=>by
     rcases List.mem_append.1 hxm with hxm | hxm
     · rw [List.mem_singleton.1 hxm];exact hx.res
     · rw [List.drop_zero] at hxm
       obtain ⟨y,hy,rfl⟩:=List.mem_map.1 hxm
       exact hx.typ y hy)
   refine ⟨v,Ev.step ?_,fun hv=>by
    have e:p.funs=p.funs[0] :: p.funs.drop 1:=by rw [<- List.drop_eq_getElem_cons hlt];rfl
    rw [e]
    exact .fn (by omega) (hvm hv)⟩
   simp only [kmB,Fnc.rows_len]
   refine Ev.yes (kaz 0 _ hlt) ?_
   simp only [ks3,tn,Fnc.rows_len,Fnc.rows_at p.funs 0 hlt,Fnc.row_eq,List.getD_cons_succ,List.getD_cons_zero,drows,Fld.rows_len]
   refine Ev.yes (kak 0 _ hlt) (Ev.yes rfl (Ev.no (decide_eq_false (by show ¬ (100:Int) < Int.ofNat _;simp only [Int.ofNat_eq_natCast];omega)) ?_))
   simp only [kCh,tn,Fnc.rows_len,Fnc.rows_at p.funs 0 hlt,Fnc.row_eq,List.getD_cons_succ,List.getD_cons_zero,drows,Fld.rows_len,E.rows_len]
   refine Ev.yes (kak 0 _ hlt) (Ev.yes (room es.length 121 (by omega) (by omega)) (Ev.yes (kak 0 _ hlt) ?_))
   simp only [<- T.rows_one,<- E.rows_app]
   refine ⟨K+200,fun m k n h1 h2 h3=>kqJ p x0 (Ak k) m n _ _ 0 hlt (by omega) _ 0 _ (Nat.zero_le _) rfl (by rw [List.length_singleton];omega) ?_ m (by omega)⟩
   rw [ks5,kap 0 (by decide)]
   exact hK m k n (by omega) (by omega) (by omega)
include hi
theorem kAe (es:List E) (he:es.length<=1) (hee:∀ x∈es,LenE x):∀ (d i:Nat),i<=p.inputs.length->p.inputs.length - i=d->∀ (ts:List T),ts.length<=i->(∀ x∈ts,LenT x) ->
 ∃ v:Bool,Ev (fun m k n=>kmA m (Ak k) n x0 (E.rows es) (T.rows ts) (Int.ofNat i) (Fld.rows p.inputs) (Fnc.rows p.funs) p.query.k p.query.n (bx p.query.name) (strs p.query.names) (ints p.query.odds) (E.rows p.query.kids) p.query.line p.query.col) (RV (V.one (bX v)))∧(v=true->kht x0 es (ts++(p.inputs.drop i).map (·.typ)) p.funs):=by
 intro d
 induction d with
 | zero =>
  intro i hi' hd ts ht htt
  obtain ⟨v,hv,hvm⟩:=knf p x0 hx0 h hf _ 0 (Nat.zero_le _) rfl es ts (by omega) (by omega) hee htt
  refine ⟨v,Ev.step ?_,fun hv=>by
   rw [List.drop_eq_nil_of_le (by omega),List.map_nil,List.append_nil]
   exact hvm hv⟩
  simp only [kiU,Fld.rows_len]
  refine Ev.no (kba i _ (by omega)) ?_
  simp only [kpR]
  exact Ev.diag hv
 | succ d ih =>
  intro i hi' hd ts ht htt
  have hlt:i < p.inputs.length:=by omega
  obtain ⟨v,hv,hvm⟩:=ih (i+1) (by omega) (by omega) (ts++[p.inputs[i].typ]) (by rw [List.length_append,List.length_singleton];omega) (fun x hxm=>by
   rcases List.mem_append.1 hxm with hxm | hxm
   · exact htt x hxm
   · rw [List.mem_singleton.1 hxm];exact h.inp _ (List.getElem_mem hlt))
  refine ⟨v,Ev.step ?_,fun hv=>by
   have:=hvm hv
   rw [List.append_assoc] at this
   rw [List.drop_eq_getElem_cons hlt,List.map_cons]
   exact this⟩
  simp only [kiU,Fld.rows_len]
  refine Ev.yes (kaz i _ hlt) ?_
  simp only [kpQ,tn,Fld.rows_len,Fld.rows_at p.inputs i hlt,Fld.row_eq,List.getD_cons_succ,List.getD_cons_zero,T.rows_len]
  refine Ev.yes (kak i _ hlt) (Ev.yes (room ts.length 33 (by omega) (by omega)) ?_)
  simp only [ks2,<- T.rows_app,kap i (show i < 9223372036854775807 by omega)]
  exact hv
theorem kub (es:List E) (he:es.length<=1) (hee:∀ x∈es,LenE x) :
 ∃ v:Bool,Ev (fun m k n=>l6_0 m (Ak k) n x0 (E.rows es) (Int.ofNat 0) (Fld.rows p.inputs) (Fnc.rows p.funs) p.query.k p.query.n (bx p.query.name) (strs p.query.names) (ints p.query.odds) (E.rows p.query.kids) p.query.line p.query.col) (RV (V.one (bX v)))∧(v=true->kht x0 es (p.inputs.map (·.typ)) p.funs):=by
 by_cases hlt:0 < p.inputs.length
 · obtain ⟨v,hv,hvm⟩:=kAe p x0 hx0 h hi hf es he hee _ 1 (by omega) rfl [p.inputs[0].typ] (Nat.le_refl _) (fun x hxm=>by rw [List.mem_singleton.1 hxm];exact h.inp _ (List.getElem_mem hlt))
   refine ⟨v,Ev.step ?_,fun hv=>by
    have e:p.inputs=p.inputs[0] :: p.inputs.drop 1:=by rw [<- List.drop_eq_getElem_cons hlt];rfl
    rw [e]
    exact hvm hv⟩
   simp only [ks1,Fld.rows_len]
   refine Ev.yes (kaz 0 _ hlt) ?_
   simp only [kCe,tn,Fld.rows_len,Fld.rows_at p.inputs 0 hlt,Fld.row_eq,List.getD_cons_succ,List.getD_cons_zero]
   refine Ev.yes (kak 0 _ hlt) ?_
   simp only [ks2,<- T.rows_one,kap 0 (by decide)]
   exact hv
 · obtain ⟨v,hv,hvm⟩:=kqK p x0 hx0 h hf es he hee
   refine ⟨v,Ev.step ?_,fun hv=>by
    rw [List.eq_nil_of_length_eq_zero (show p.inputs.length=0 by omega)]
    exact hvm hv⟩
   simp only [ks1,Fld.rows_len]
   refine Ev.no (kba 0 _ (by omega)) ?_
   simp only [kCf]
   exact Ev.diag hv
end
theorem kAf (x0:Int) (hx0:x0<=1000000) (p:Pg) (h:LenP p):∃ v:Bool,Cal 6 [V.one (iX x0),pV p] [] (RV (V.one (bX v)))∧(v=true->p.inputs.length<=100∧p.funs.length<=100∧kht x0 [p.query] (p.inputs.map (·.typ)) p.funs):=by
 by_cases hi:100 < p.inputs.length
 · refine ⟨false,kCk _ _ _ _ _ _ _ _ _ _ _ ?_,fun h=>by cases h⟩
   simp only [kCc,Fld.rows_len,Fnc.rows_len]
   exact Ev.yes (decide_eq_true (by show (100:Int) < Int.ofNat _;simp only [Int.ofNat_eq_natCast];omega)) (Ev.ret _)
 by_cases hf:100 < p.funs.length
 · refine ⟨false,kCk _ _ _ _ _ _ _ _ _ _ _ ?_,fun h=>by cases h⟩
   simp only [kCc,Fld.rows_len,Fnc.rows_len]
   exact Ev.no (decide_eq_false (by show ¬ (100:Int) < Int.ofNat _;simp only [Int.ofNat_eq_natCast];omega)) (Ev.yes (decide_eq_true (by show (100:Int) < Int.ofNat _;simp only [Int.ofNat_eq_natCast];omega)) (Ev.ret _))
 obtain ⟨v,hv,hvm⟩:=kub p x0 hx0 h (by omega) (by omega) [p.query] (Nat.le_refl _) (fun x hx=>by rw [List.mem_singleton.1 hx];exact h.query)
 refine ⟨v,kCk _ _ _ _ _ _ _ _ _ _ _ ?_,fun hv=>⟨by omega,by omega,hvm hv⟩⟩
 simp only [kCc,Fld.rows_len,Fnc.rows_len]
 refine Ev.no (decide_eq_false (by show ¬ (100:Int) < Int.ofNat _;simp only [Int.ofNat_eq_natCast];omega)) (Ev.no (decide_eq_false (by show ¬ (100:Int) < Int.ofNat _;simp only [Int.ofNat_eq_natCast];omega)) ?_)
 simp only [kCd,<- E.rows_one]
 exact Ev.diag hv
theorem kAg {p:Pg} {x0:Int} (hx:x0<=100000) (h:p.inputs.length<=100∧p.funs.length<=100∧kht x0 [p.query] (p.inputs.map (·.typ)) p.funs):Mild p:=by
 obtain ⟨a,b,c,d,e⟩:=h
 simp only [Int.ofNat_eq_natCast] at c d e
 exact ⟨a,b,fun f hf=>by have:=d _ (List.mem_map_of_mem hf);omega,fun g hg=>(e g hg).1,fun g hg f hf=>by have:=(e g hg).2.2.2 f hf;omega,
  fun g hg=>by have:=(e g hg).2.2.1;omega,fun g hg=>by have:=(e g hg).2.1;omega,by have:=c _ (List.mem_singleton.2 rfl);omega⟩
theorem kAh (p:Pg) (h:LenP p) (m:Mild p):Cal 8 [pV p] [] (RV (prV (prP p))):=by
 unfold prP
 cases hr:kbT p with
 | true=>rw [if_pos rfl];exact kpc p h hr m
 | false =>
  rw [if_neg (by decide)]
  refine kGm _ _ _ _ _ _ _ _ _ _ ?_
  simp only [kGc]
  refine v_oB (kjh p h) ?_
  rw [hr]
  exact Ev.yes rfl (Ev.ret _)
abbrev RD:List Lf:=[Lf.lst 5,Lf.int IntKind.i64]
abbrev rd (l:List Tok) (i:Nat):List X:=[X.d (D.list 5 (toks l)),X.d (D.int IntKind.i64 (Int.ofNat i))]
abbrev rds (l:List Tok) (i:Nat):List (List Lf × List X):=[(RD,rd l i)]
def flt (t:Tok):D:=D.iface 38 [D.int IntKind.i64 11,D.str (bx t.text),D.int IntKind.i64 t.line,D.int IntKind.i64 t.col]
def outOf {α:Type} (l:List Tok) (enc:α->V):Rs α->Out
 | .ok a j=>⟨true,enc a,D.junk,[rd l j],0⟩
 | .no j=>⟨false,V.junk,flt (tk l j),[rd l j],0⟩
 | .out=>⟨true,V.junk,D.junk,[],0⟩
def Sim {α:Type} (l:List Tok) (enc:α->V) (F:Nat->Nat->Nat->Option Out) (r:Rs α):Prop:=r ≠ .out->Ev F (outOf l enc r)
theorem Sim.ret {α:Type} {l:List Tok} {enc:α->V} {F:Nat->Nat->Nat->Option Out} {P:(q:NT)->Nat->Rs (Ret q)} {a:α} {i:Nat} (h:∀ m k n,F m k n=some ⟨true,enc a,D.junk,[rd l i],0⟩):Sim l enc F (run P l (.ret a) i):=fun _=>Ev.of h
theorem Sim.eq {α:Type} {l:List Tok} {enc:α->V} {F G:Nat->Nat->Nat->Option Out} {r:Rs α} (h:Sim l enc G r) (e:∀ m k n,F m k n=G m k n):Sim l enc F r:=fun hr=>(h hr).eq e
theorem kc1 {l:List Tok} {i:Nat} (hi:i < l.length):Cal 74 [V.one (X.ptr 0 0)] (rds l i) ⟨true,kV (tk l i),D.junk,[rd l i],0⟩:=by
 refine kHC _ _ (Ev.of fun m k n=>?_)
 rw [kHl,kgJ,kak i _ hi,cond_true,tn,kz0 l i hi]
 rfl
theorem C_is {l:List Tok} {i:Nat} (hi:i < l.length) (s:List UInt8):Cal 106 [V.one (X.ptr 0 0),V.one (X.d (D.str (bx s)))] (rds l i) ⟨true,V.one (X.d (D.bool (isT s (tk l i)))),D.junk,[rd l i],0⟩:=by
 refine kCG _ _ _ ?_
 simp only [kCx]
 refine kaF (kc1 hi) ?_
 refine Ev.of fun m k n=>?_
 unfold isT
 rw [kbz,kbz,kcZ]
 cases h4:(tk l i).kind==4
 · cases h2:(tk l i).kind==2
   · rfl
   · rfl
 · rfl
theorem kkt {l:List Tok} {i:Nat} (hi:i < l.length):Cal 75 [V.one (X.ptr 0 0)] (rds l i) ⟨false,V.junk,flt (tk l i),[rd l i],0⟩:=by
 refine kHD _ _ ?_
 simp only [kHm]
 exact kaF (kc1 hi) (Ev.of fun m k n=>rfl)
theorem up {l:List Tok} (hl:l.length<=1000000) {i:Nat} (hi:i < l.length):IntKind.wrap .i64 (Int.ofNat i+1)=Int.ofNat (i+1):=kap i (by omega)
theorem kqL {l:List Tok} (hl:l.length<=1000000) {i:Nat} (hi:i < l.length) (s:List UInt8):Cal 76 [V.one (X.ptr 0 0),V.one (X.d (D.str (bx s)))] (rds l i)
 ⟨true,V.one (X.d (D.bool (isT s (tk l i)))),D.junk,[rd l (bif isT s (tk l i) then i+1 else i)],0⟩:=by
 refine kHJ _ _ _ ?_
 simp only [kHs]
 refine keq (C_is hi s) ?_
 refine Ev.of fun m k n=>?_
 cases h:isT s (tk l i)
 · rw [cond_false,kwK];rfl
 · rw [cond_true,up hl hi];rfl
theorem kpd {l:List Tok} (hl:l.length<=1000000) {i:Nat} (hi:i < l.length) {s:List UInt8} (h:isT s (tk l i)=true):Cal 78 [V.one (X.ptr 0 0),V.one (X.d (D.str (bx s)))] (rds l i)
 ⟨true,V.tup [],D.junk,[rd l (i+1)],0⟩:=by
 refine kzt _ _ _ ?_
 simp only [kzp]
 have:=kqL hl hi s
 rw [h,cond_true] at this
 exact keq this (Ev.of fun m k n=>rfl)
theorem kqM {l:List Tok} (hl:l.length<=1000000) {i:Nat} (hi:i < l.length) {s:List UInt8} (h:isT s (tk l i)=false):Cal 78 [V.one (X.ptr 0 0),V.one (X.d (D.str (bx s)))] (rds l i)
 ⟨false,V.junk,flt (tk l i),[rd l i],0⟩:=by
 refine kzt _ _ _ ?_
 simp only [kzp]
 have:=kqL hl hi s
 rw [h,cond_false] at this
 refine keq this (Ev.yes rfl ?_)
 exact kgl (kkt hi) (Ev.of fun m k n=>rfl)
theorem kpe {l:List Tok} (hl:l.length<=1000000) {i:Nat} (hi:i < l.length) {κ:Int} (h:((tk l i).kind==κ)=true):Cal 87 [V.one (X.ptr 0 0),V.one (X.d (D.int IntKind.i64 κ))] (rds l i)
 ⟨true,kV (tk l i),D.junk,[rd l (i+1)],0⟩:=by
 refine kzu _ _ _ ?_
 simp only [kzq]
 refine kaF (kc1 hi) (Ev.of fun m k n=>?_)
 rw [show ((tk l i).kind != κ)=false by rw [bne,h];rfl,cond_false,kw0,up hl hi]
 rfl
theorem kqN {l:List Tok} {i:Nat} (hi:i < l.length) {κ:Int} (h:((tk l i).kind==κ)=false):Cal 87 [V.one (X.ptr 0 0),V.one (X.d (D.int IntKind.i64 κ))] (rds l i)
 ⟨false,V.junk,flt (tk l i),[rd l i],0⟩:=by
 refine kzu _ _ _ ?_
 simp only [kzq]
 refine kaF (kc1 hi) ?_
 simp only [show ((tk l i).kind != κ)=true by rw [bne,h];rfl,cond_true]
 exact kgl (kkt hi) (Ev.of fun m k n=>rfl)
section
variable {α:Type} {l:List Tok} {enc:α->V} {P:(q:NT)->Nat->Rs (Ret q)}
abbrev kib (Q:Nat->Nat->Nat->D->List (List D)->Int->Option Out):Prop:=∀ m k n d w i,Q m k n d w i=some ⟨false,V.junk,d,[[X.d (D.list 5 w),X.d (D.int IntKind.i64 i)]],0⟩
theorem klH {i:Nat} (hi:i < l.length) {K:Nat->Nat->Nat->Int->ByteArray->Int->Int->Int->List (List D)->Int->Option Out} {Q:Nat->Nat->Nat->D->List (List D)->Int->Option Out} {f:Tok->Pm α}
 (h:Sim l enc (fun m k n=>K m k n (tk l i).kind (bx (tk l i).text) (tk l i).n (tk l i).line (tk l i).col (toks l) (Int.ofNat i)) (run P l (f (tk l i)) i)) :
 Sim l enc (fun m k n=>kal (Ak k false 74 [V.one (X.ptr 0 0)] (rds l i)) (K m k n) (Q m k n)) (run P l (.look f) i):=fun hr=>kaF (kc1 hi) (h hr)
theorem kaY (hl:l.length<=1000000) {i:Nat} (hi:i < l.length) (s:List UInt8) {K:Nat->Nat->Nat->Bool->List (List D)->Int->Option Out} {Q:Nat->Nat->Nat->D->List (List D)->Int->Option Out} {y n:Pm α}
 (hy:isT s (tk l i)=true->Sim l enc (fun m k n=>K m k n true (toks l) (Int.ofNat (i+1))) (run P l y (i+1)))
 (hn:isT s (tk l i)=false->Sim l enc (fun m k n=>K m k n false (toks l) (Int.ofNat i)) (run P l n i)) :
 Sim l enc (fun m k n=>kar (Ak k false 76 [V.one (X.ptr 0 0),V.one (X.d (D.str (bx s)))] (rds l i)) (K m k n) (Q m k n)) (run P l (Pm.take s y n) i):=by
 have hc:=kqL hl hi s
 unfold run
 cases h:isT s (tk l i) with
 | true=>rw [h] at hc;exact fun hr=>keq hc (hy h hr)
 | false=>rw [h] at hc;exact fun hr=>keq hc (hn h hr)
theorem kaK (hl:l.length<=1000000) {i:Nat} (hi:i < l.length) (s:List UInt8) {K:Nat->Nat->Nat->List (List D)->Int->Option Out} {Q:Nat->Nat->Nat->D->List (List D)->Int->Option Out} {y:Pm α} (hp:kib Q)
 (hy:isT s (tk l i)=true->Sim l enc (fun m k n=>K m k n (toks l) (Int.ofNat (i+1))) (run P l y (i+1))) :
 Sim l enc (fun m k n=>kaq (Ak k false 78 [V.one (X.ptr 0 0),V.one (X.d (D.str (bx s)))] (rds l i)) (K m k n) (Q m k n)) (run P l (Pm.want s y) i):=by
 unfold run
 cases h:isT s (tk l i) with
 | true=>exact fun hr=>kBr (kpd hl hi h) (hy h hr)
 | false=>exact fun hr=>kgl (kqM hl hi h) (Ev.of fun m k n=>hp m k n _ _ _)
theorem kcP (hl:l.length<=1000000) {i:Nat} (hi:i < l.length) (κ:Int) {K:Nat->Nat->Nat->Int->ByteArray->Int->Int->Int->List (List D)->Int->Option Out} {Q:Nat->Nat->Nat->D->List (List D)->Int->Option Out} {f:Tok->Pm α} (hp:kib Q)
 (hy:(tk l i).kind=κ->Sim l enc (fun m k n=>K m k n (tk l i).kind (bx (tk l i).text) (tk l i).n (tk l i).line (tk l i).col (toks l) (Int.ofNat (i+1))) (run P l (f (tk l i)) (i+1))) :
 Sim l enc (fun m k n=>kal (Ak k false 87 [V.one (X.ptr 0 0),V.one (X.d (D.int IntKind.i64 κ))] (rds l i)) (K m k n) (Q m k n)) (run P l (Pm.kind κ f) i):=by
 unfold run
 cases h:(tk l i).kind==κ with
 | true=>exact fun hr=>kaF (kpe hl hi h) (hy (by simpa using h) hr)
 | false=>exact fun hr=>kjO (kqN hi h) (Ev.of fun m k n=>hp m k n _ _ _)
end
theorem Sim.step {α:Type} {l:List Tok} {enc:α->V} {F:Nat->Nat->Nat->Option Out} {r:Rs α} (h:Sim l enc (fun m k n=>F (m+1) k n) r):Sim l enc F r:=fun hr=>(h hr).step
theorem Sim.diag {α:Type} {l:List Tok} {enc:α->V} {F:Nat->Nat->Nat->Option Out} {r:Rs α} (h:Sim l enc F r):Sim l enc (fun m k n=>F n k n) r:=fun hr=>(h hr).diag
theorem Sim.yes {α:Type} {l:List Tok} {enc:α->V} {F G:Nat->Nat->Nat->Option Out} {r:Rs α} {c:Bool} (hc:c=true) (h:Sim l enc F r):Sim l enc (fun m k n=>bif c then F m k n else G m k n) r:=fun hr=>(h hr).yes hc
theorem Sim.no {α:Type} {l:List Tok} {enc:α->V} {F G:Nat->Nat->Nat->Option Out} {r:Rs α} {c:Bool} (hc:c=false) (h:Sim l enc G r):Sim l enc (fun m k n=>bif c then F m k n else G m k n) r:=fun hr=>(h hr).no hc
theorem Sim.enc {α β:Type} {l:List Tok} {e:α->V} {e':β->V} {F:Nat->Nat->Nat->Option Out} {r:Rs α} {g:α->β} (he:∀ a,e' (g a)=e a) (h:Sim l e F r):Sim l e' F (kdE r fun a j=>.ok (g a) j):=by
 intro hr
 cases r with
 | ok a j =>
  have:=h (fun q=>by cases q)
  show Ev F ⟨true,e' (g a),D.junk,[rd l j],0⟩
  rw [he]
  exact this
 | no j=>exact h (fun q=>by cases q)
 | out=>exact absurd rfl hr
def Reads {α:Type} (l:List Tok) (f:FuncId) (enc:α->V) (R:Nat->Rs α):Prop:=∀ i,i < l.length->Sim l enc (fun _ k _=>Ak k false f [V.one (X.ptr 0 0)] (rds l i)) (R i)
structure Few (l:List Tok):Prop where
 good:GoodL l
 len:l.length<=1000000
theorem T.rows_two (a b:T):T.rows [a,b]=[[D.int IntKind.i64 a.k,D.list 2 (T.rows a.l)],[D.int IntKind.i64 b.k,D.list 2 (T.rows b.l)]]:=by
 have:=T.rows_app [a] b
 rw [T.rows_one] at this
 exact this
section
variable {α:Type} {l:List Tok} {enc:α->V}
theorem S_T {f:FuncId} {args:List V} {rows:List (List Lf × List X)} {r:Rs T} {g:T->Nat->Rs α} {K:Nat->Nat->Nat->Int->List (List D)->List (List D)->Int->Option Out} {Q:Nat->Nat->Nat->D->List (List D)->Int->Option Out}
 (h:Sim l tV (fun _ k _=>Ak k false f args rows) r) (hp:kib Q)
 (hy:∀ a j,r=.ok a j->Sim l enc (fun m k n=>K m k n a.k (T.rows a.l) (toks l) (Int.ofNat j)) (g a j)) :
 Sim l enc (fun m k n=>ka0 (Ak k false f args rows) (K m k n) (Q m k n)) (kdE r g):=by
 cases r with
 | ok a j=>exact fun hr=>kmd (h (fun q=>by cases q)) (hy a j rfl hr)
 | no j=>exact fun hr=>kme (h (fun q=>by cases q)) (Ev.of fun m k n=>hp m k n _ _ _)
 | out=>exact fun hr=>absurd rfl hr
end
theorem kx6 {l:List Tok} (hl:Few l):∀ μ i,i < l.length->l.length - i < μ->Sim l tV (fun _ k _=>Ak k false 107 [V.one (X.ptr 0 0)] (rds l i)) (pw l .typ i) ∧
 ∀ (acc:List T) z z' x2,acc.length<=i->Sim l tV (fun m k n=>koJ m (Ak k) n z z' (toks l) (Int.ofNat i) x2 3 (T.rows acc)) (run (pw l) l (.call .typs fun r=>.ret (T.mk 3 (acc++r))) i)
 | 0,i,hi,h=>by omega
 | μ+1,i,hi,h=>by
  have ih:=kx6 hl μ
  have g:=hl.good
  refine ⟨?_,fun acc z z' x2 ha=>?_⟩
  · rw [kaC g _ i hi]
    refine fun hr=>kCH _ _ ((?_:Sim l tV (fun _ k n=>e107 (Ak k) n (toks l) (Int.ofNat i)) (run (pw l) l (body .typ) i)) hr)
    clear hr
    simp only [kCy]
    refine kaY hl.len hi kpV (fun h=>Sim.yes rfl (Sim.ret fun _ _ _=>rfl)) (fun h=>Sim.no rfl ?_)
    refine kaY hl.len hi wInt (fun h=>Sim.yes rfl (Sim.ret fun _ _ _=>rfl)) (fun h=>Sim.no rfl ?_)
    refine kaY hl.len hi wLb (fun h=>Sim.yes rfl ?_) (fun h=>Sim.no rfl ?_)
    · have h1:=nx g hi h
      rw [kai]
      refine S_T (ih _ h1 (by omega)).1 (fun _ _ _ _ _ _=>rfl) fun a j hj=>?_
      have hf:=kbf g h1 hj
      refine kaK hl.len hf.2 wRb (fun _ _ _ _ _ _=>rfl) fun h2=>Sim.ret fun _ _ _=>?_
      unfold tV
      rw [T.k,T.l,T.rows_one]
    · simp only [kte]
      refine kaK hl.len hi wLp (fun _ _ _ _ _ _=>rfl) fun h2=>?_
      have h1:=nx g hi h2
      rw [kai]
      refine S_T (ih _ h1 (by omega)).1 (fun _ _ _ _ _ _=>rfl) fun a j hj=>?_
      have hf:=kbf g h1 hj
      refine kaK hl.len hf.2 wCm (fun _ _ _ _ _ _=>rfl) fun h3=>?_
      have h4:=nx g hf.2 h3
      rw [kai]
      refine S_T (ih _ h4 (by omega)).1 (fun _ _ _ _ _ _=>rfl) fun b j2 hj2=>?_
      have hf2:=kbf g h4 hj2
      rw [<- T.rows_two]
      exact Sim.diag ((ih j2 hf2.2 (by omega)).2 [a,b] _ _ _ (by simp only [List.length_cons,List.length_nil];omega))
  · rw [kbF g _ _ i hi]
    refine Sim.step ?_
    simp only [ktf]
    refine kaY hl.len hi wCm (fun h=>Sim.yes rfl ?_) (fun h=>Sim.no rfl ?_)
    · have h1:=nx g hi h
      simp only [kth]
      refine Eq.subst (motive:=fun r=>Sim l tV _ r) (kai _ _ _).symm ?_
      refine S_T (ih _ h1 (by omega)).1 (fun _ _ _ _ _ _=>rfl) fun a j hj=>?_
      have hf:=kbf g h1 hj
      refine Sim.yes (by rw [T.rows_len];exact roomy _ _ (by have:=hl.len;omega) (by omega)) ?_
      rw [<- T.rows_app]
      have:=(ih j hf.2 (by omega)).2 (acc++[a]) z z' x2 (by rw [List.length_append,List.length_singleton];omega)
      simp only [List.append_assoc,List.singleton_append] at this
      exact this
    · simp only [kti]
      refine kaK hl.len hi wRp (fun _ _ _ _ _ _=>rfl) fun h2=>Sim.ret fun _ _ _=>?_
      rw [List.append_nil]
      rfl
def esV (l:List E):V:=V.one (X.d (D.list 8 (E.rows l)))
def osV (l:List Int):V:=V.one (X.d (D.list 1 (ints l)))
def nV (n:Int):V:=V.one (X.d (D.int IntKind.i64 n))
section
variable {α:Type} {l:List Tok} {enc:α->V}
theorem S_E {f:FuncId} {args:List V} {rows:List (List Lf × List X)} {r:Rs E} {g:E->Nat->Rs α} {K:Nat->Nat->Nat->Int->Int->ByteArray->List (List D)->List (List D)->List (List D)->Int->Int->List (List D)->Int->Option Out} {Q:Nat->Nat->Nat->D->List (List D)->Int->Option Out}
 (h:Sim l eV (fun _ k _=>Ak k false f args rows) r) (hp:kib Q)
 (hy:∀ a j,r=.ok a j->Sim l enc (fun m k n=>K m k n a.k a.n (bx a.name) (strs a.names) (ints a.odds) (E.rows a.kids) a.line a.col (toks l) (Int.ofNat j)) (g a j)) :
 Sim l enc (fun m k n=>kad (Ak k false f args rows) (K m k n) (Q m k n)) (kdE r g):=by
 cases r with
 | ok a j=>exact fun hr=>kcF (h (fun q=>by cases q)) (hy a j rfl hr)
 | no j=>exact fun hr=>kcG (h (fun q=>by cases q)) (Ev.of fun m k n=>hp m k n _ _ _)
 | out=>exact fun hr=>absurd rfl hr
theorem S_F {f:FuncId} {args:List V} {rows:List (List Lf × List X)} {r:Rs Fld} {g:Fld->Nat->Rs α} {K:Nat->Nat->Nat->ByteArray->Int->List (List D)->Int->Int->List (List D)->Int->Option Out} {Q:Nat->Nat->Nat->D->List (List D)->Int->Option Out}
 (h:Sim l fV (fun _ k _=>Ak k false f args rows) r) (hp:kib Q)
 (hy:∀ a j,r=.ok a j->Sim l enc (fun m k n=>K m k n (bx a.name) a.typ.k (T.rows a.typ.l) a.line a.col (toks l) (Int.ofNat j)) (g a j)) :
 Sim l enc (fun m k n=>kaV (Ak k false f args rows) (K m k n) (Q m k n)) (kdE r g):=by
 cases r with
 | ok a j=>exact fun hr=>kii (h (fun q=>by cases q)) (hy a j rfl hr)
 | no j=>exact fun hr=>kij (h (fun q=>by cases q)) (Ev.of fun m k n=>hp m k n _ _ _)
 | out=>exact fun hr=>absurd rfl hr
theorem S_L {f:FuncId} {args:List V} {rows:List (List Lf × List X)} {r:Rs (List E)} {g:List E->Nat->Rs α} {K:Nat->Nat->Nat->List (List D)->List (List D)->Int->Option Out} {Q:Nat->Nat->Nat->D->List (List D)->Int->Option Out}
 (h:Sim l esV (fun _ k _=>Ak k false f args rows) r) (hp:kib Q)
 (hy:∀ a j,r=.ok a j->Sim l enc (fun m k n=>K m k n (E.rows a) (toks l) (Int.ofNat j)) (g a j)) :
 Sim l enc (fun m k n=>kcJ (Ak k false f args rows) (K m k n) (Q m k n)) (kdE r g):=by
 cases r with
 | ok a j=>exact fun hr=>ksk (h (fun q=>by cases q)) (hy a j rfl hr)
 | no j=>exact fun hr=>ksl (h (fun q=>by cases q)) (Ev.of fun m k n=>hp m k n _ _ _)
 | out=>exact fun hr=>absurd rfl hr
theorem S_O {f:FuncId} {args:List V} {rows:List (List Lf × List X)} {r:Rs (List Int)} {g:List Int->Nat->Rs α} {K:Nat->Nat->Nat->List (List D)->List (List D)->Int->Option Out} {Q:Nat->Nat->Nat->D->List (List D)->Int->Option Out}
 (h:Sim l osV (fun _ k _=>Ak k false f args rows) r) (hp:kib Q)
 (hy:∀ a j,r=.ok a j->Sim l enc (fun m k n=>K m k n (ints a) (toks l) (Int.ofNat j)) (g a j)) :
 Sim l enc (fun m k n=>kcI (Ak k false f args rows) (K m k n) (Q m k n)) (kdE r g):=by
 cases r with
 | ok a j=>exact fun hr=>ksi (h (fun q=>by cases q)) (hy a j rfl hr)
 | no j=>exact fun hr=>ksj (h (fun q=>by cases q)) (Ev.of fun m k n=>hp m k n _ _ _)
 | out=>exact fun hr=>absurd rfl hr
theorem S_I {f:FuncId} {args:List V} {rows:List (List Lf × List X)} {r:Rs Int} {g:Int->Nat->Rs α} {K:Nat->Nat->Nat->Int->List (List D)->Int->Option Out} {Q:Nat->Nat->Nat->D->List (List D)->Int->Option Out}
 (h:Sim l nV (fun _ k _=>Ak k false f args rows) r) (hp:kib Q)
 (hy:∀ a j,r=.ok a j->Sim l enc (fun m k n=>K m k n a (toks l) (Int.ofNat j)) (g a j)) :
 Sim l enc (fun m k n=>kdt (Ak k false f args rows) (K m k n) (Q m k n)) (kdE r g):=by
 cases r with
 | ok a j=>exact fun hr=>kuZ (h (fun q=>by cases q)) (hy a j rfl hr)
 | no j=>exact fun hr=>ku0 (h (fun q=>by cases q)) (Ev.of fun m k n=>hp m k n _ _ _)
 | out=>exact fun hr=>absurd rfl hr
theorem kbt (κ:Int) (t:Tok) {r:Rs α} {K:Nat->Nat->Nat->Int->Int->ByteArray->Int->Int->Option Out} {Q:Nat->Nat->Nat->D->Option Out}
 (h:Sim l enc (fun m k n=>K m k n κ 0 (bx []) t.line t.col) r) :
 Sim l enc (fun m k n=>kan (Ak k false 86 [V.one (X.d (D.int IntKind.i64 κ)),V.agg [X.d (D.int IntKind.i64 t.kind),X.d (D.str (bx t.text)),X.d (D.int IntKind.i64 t.n),X.d (D.int IntKind.i64 t.line),X.d (D.int IntKind.i64 t.col)]] []) (K m k n) (Q m k n)) r :=
 fun hr=>khY (kHM _ _ _ _ _ _ (Ev.of fun m k n=>by rw [kHv];rfl)) (h hr)
end
theorem kAi (ls:List (List UInt8)) (hls:ls.length<=1000000) (s:List UInt8):∀ (d i:Nat),ls.length - i<=d->i<=ls.length->∃ v:Int,(decide (v ≥ 0)=(ls.drop i).contains s) ∧
 Ev (fun m k n=>koT m (Ak k) n (strs ls) (bx s) (Int.ofNat ls.length) (Int.ofNat i)) ⟨true,V.one (X.d (D.int IntKind.i64 v)),D.junk,[],0⟩:=by
 intro d
 induction d with
 | zero =>
  intro i h hi
  refine ⟨-1,?_,?_⟩
  · rw [List.drop_eq_nil_of_le (by omega)];rfl
  · refine Ev.step ?_
    simp only [kfO,kba i _ (show ls.length<=i by omega),cond_false]
    exact Ev.of fun m k n=>by rw [klj]
 | succ d ih =>
  intro i h hi
  by_cases hlt:i < ls.length
  · have hat:(strs ls).getD i []=[D.str (bx (ls.getD i []))]:=by
     unfold strs
     rw [kb7 _ _ _ hlt]
     rfl
    have hdrop:ls.drop i=ls.getD i [] :: ls.drop (i+1):=by
     rw [List.drop_eq_getElem_cons hlt,List.getD_eq_getElem?_getD,List.getElem?_eq_getElem hlt]
     rfl
    by_cases he:ls.getD i []=s
    · refine ⟨Int.ofNat i,?_,?_⟩
      · rw [hdrop,he]
        simp
      · refine Ev.step ?_
        simp only [kfO,kaz i _ hlt,cond_true]
        refine Ev.of fun m k n=>?_
        rw [kli,kcN,kak i _ hlt,cond_true,tn,hat,he]
        show (bif beqL (bx s).data.toList (bx s).data.toList then _ else _)=_
        rw [kcZ,beq_self_eq_true]
        rfl
    · obtain ⟨v,hv,hev⟩:=ih (i+1) (by omega) (by omega)
      refine ⟨v,?_,?_⟩
      · rw [hv,hdrop,List.contains_cons]
        have:(s==ls.getD i [])=false:=by simpa using fun e=>he e.symm
        rw [this,Bool.false_or]
      · refine Ev.step (Ev.eq hev fun m k n=>?_)
        rw [kfO,kaz i _ hlt,cond_true,kli,kcN,kak i _ hlt,cond_true,tn,hat]
        show (bif beqL (bx s).data.toList (bx (ls.getD i [])).data.toList then _ else _)=_
        rw [kcZ,kbz,kbz,show (s==ls.getD i [])=false by simpa using fun e=>he e.symm,cond_false,ktx,kap i (by omega)]
  · refine ⟨-1,?_,?_⟩
    · rw [List.drop_eq_nil_of_le (by omega)];rfl
    · refine Ev.step ?_
      simp only [kfO,kba i _ (show ls.length<=i by omega),cond_false]
      exact Ev.of fun m k n=>by rw [klj]
theorem kpf (ls:List (List UInt8)) (hls:ls.length<=1000000) (s:List UInt8):Cal 126 [V.one (X.d (D.list 1 (strs ls))),V.one (X.d (D.str (bx s)))] [] ⟨true,V.one (X.d (D.bool (ls.contains s))),D.junk,[],0⟩:=by
 obtain ⟨v,hv,hev⟩:=kAi ls hls s ls.length 0 (by omega) (by omega)
 refine kCN _ _ ?_
 simp only [kCE]
 refine v_oI (y0:=v) (kCO _ _ ?_) (Ev.of fun m k n=>by rw [hv];rfl)
 simp only [kCF,kcN]
 exact Ev.diag hev
def opAt (n:Nat) (t:Tok):List UInt8:=if (kbk n).any (fun s=>isT s t) then t.text else []
theorem kqO {α:Type} {P:(q:NT)->Nat->Rs (Ret q)} {l:List Tok} (y n:Pm α) (i:Nat):∀ ss:List (List UInt8),run P l (Pm.any ss y n) i=if ss.any (fun s=>isT s (tk l i)) then run P l y i else run P l n i
 | []=>rfl
 | s :: ss=>by
  show run P l (.tst s y (Pm.any ss y n)) i=_
  rw [run,List.any_cons]
  cases isT s (tk l i)
  · rw [cond_false,Bool.false_or];exact kqO y n i ss
  · rfl
theorem kuc {s:List UInt8} {t:Tok} (h:(t.kind==4 || t.kind==2)=true):isT s t=(t.text==s):=by unfold isT;rw [h,Bool.true_and]
theorem kud {s:List UInt8} {t:Tok} (h:(t.kind==4 || t.kind==2)=false):isT s t=false:=by unfold isT;rw [h,Bool.false_and]
theorem kDo {l:List Tok} {i:Nat} (hi:i < l.length) (n:Nat) (hn:n<=5):Cal 111 [V.one (X.ptr 0 0),V.one (X.d (D.int IntKind.i64 (Int.ofNat n)))] (rds l i) ⟨true,V.one (X.d (D.str (bx (opAt n (tk l i))))),D.junk,[rd l i],0⟩:=by
 refine kCM _ _ _ ?_
 simp only [kCD]
 refine kaF (kc1 hi) ?_
 generalize tk l i=t
 cases hk:(t.kind==4 || t.kind==2) with
 | false =>
  rw [Bool.or_eq_false_iff] at hk
  have h0:opAt n t=[]:=by
   unfold opAt
   rw [if_neg]
   rw [Bool.not_eq_true,List.any_eq_false]
   exact fun s _=>by rw [kud (by rw [hk.1,hk.2];rfl)];simp
  refine Ev.of fun m k n'=>?_
  rw [h0,show (t.kind != 4)=true by rw [bne,hk.1];rfl,show (t.kind != 2)=true by rw [bne,hk.2];rfl]
  rfl
 | true =>
  have hq:Ev (fun m k n'=>koR (Ak k) n' (toks l) (Int.ofNat i) (Int.ofNat n) (toks l) (Int.ofNat i) t.kind (bx t.text) t.n t.line t.col) ⟨true,V.one (X.d (D.str (bx (opAt n t)))),D.junk,[rd l i],0⟩:=by
   have e1:∀ s,isT s t=(t.text==s):=fun s=>kuc hk
   simp only [ktq,kcZ,kbz,ktu]
   unfold opAt
   simp only [e1]
   have fin:∀ {c:Bool} {z:List UInt8},c=true->Ev (fun _ _ _=>some (Out.mk true (V.one (X.d (D.str (bx t.text)))) D.junk [rd l i] 0)) ⟨true,V.one (X.d (D.str (bx (if c=true then t.text else z)))),D.junk,[rd l i],0⟩:=fun {c z} h=>by rw [if_pos h];exact Ev.ret _
   have non:∀ {c:Bool} {z:List UInt8},c=false->Ev (fun _ _ _=>some (Out.mk true (V.one (X.d (D.str ⟨#[]⟩))) D.junk [rd l i] 0)) ⟨true,V.one (X.d (D.str (bx (if c=true then z else [])))),D.junk,[rd l i],0⟩:=fun {c z} h=>by rw [h];exact Ev.ret _
   match n,hn with
   | 0,_ =>
    cases h:t.text==wOr
    · exact non (by simp [kbk,h])
    · exact fin (by simp [kbk,h])
   | 1,_ =>
    cases h:t.text==wAnd
    · exact non (by simp [kbk,h])
    · exact fin (by simp [kbk,h])
   | 2,_ =>
    refine Ev.no rfl (Ev.no rfl (Ev.yes rfl ?_))
    refine v_oB (kpf [kia,wLt,wLe] (by simp) t.text) ?_
    have e2:[kia,wLt,wLe].contains t.text=(kbk 2).any fun s=>t.text==s:=by
     rw [List.contains_cons,List.contains_cons,List.contains_cons,List.contains_nil]
     rfl
    rw [<- e2]
    cases h:[kia,wLt,wLe].contains t.text
    · exact non rfl
    · exact fin rfl
   | 3,_ =>
    cases h:t.text==wCc
    · exact non (by simp [kbk,h])
    · exact fin (by simp [kbk,h])
   | 4,_ =>
    cases h:t.text==wPl
    · cases h2:t.text==wMi
      · exact non (by simp [kbk,h,h2])
      · exact fin (by simp [kbk,h,h2])
    · exact fin (by simp [kbk,h])
   | 5,_ =>
    cases h:t.text==wTi
    · cases h2:t.text==wSl
      · cases h3:t.text==wPc
        · exact non (by simp [kbk,h,h2,h3])
        · exact fin (by simp [kbk,h,h2,h3])
      · exact fin (by simp [kbk,h,h2])
    · exact fin (by simp [kbk,h])
  cases h4:t.kind==4
  · rw [h4,Bool.false_or] at hk
    refine Ev.eq hq fun m k n'=>?_
    rw [show (t.kind != 4)=true by rw [bne,h4];rfl,show (t.kind != 2)=false by rw [bne,hk];rfl]
    rfl
  · refine Ev.eq hq fun m k n'=>?_
    rw [show (t.kind != 4)=false by rw [bne,h4];rfl]
    rfl
end Go.Proofs.YtaphnbaiamnfpaaGreatDoor.Ps
