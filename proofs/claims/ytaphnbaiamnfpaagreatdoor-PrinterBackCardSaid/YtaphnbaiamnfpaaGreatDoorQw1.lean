/- The library's functions of this program, as calls of the evaluator. -/
import Derived.Test.YtaphnbaiamnfpaaGreatDoorShelf
import Derived.Test.YtaphnbaiamnfpaaGreatDoorBc
import Derived.Below
import Derived.Lib.Index
import Derived.Lib.Join
import Derived.Lib.ItoaNum
import Derived.Lib.AppendIntMem
namespace Go.Proofs.YtaphnbaiamnfpaaGreatDoor.Ps
set_option linter.unusedVariables false
set_option linter.unusedSimpArgs false
open Go Go.RowKit Go.Proofs
theorem krH {P:Program} {w w':World} {name:String} {cs:Array Value} (h:w.var? P name=some cs) (hb:Below w.heap.size w w'):w'.var? P name=some cs:=by
 unfold World.var? at *
 cases hg:P.globalNamed name with
 | none=>simp [hg] at h
 | some g =>
  simp only [hg,Option.bind_some] at h ⊢
  have hlt:g < w.heap.size:=by
   rcases Nat.lt_or_ge g w.heap.size with h' | h'
   · exact h'
   · rw [Array.getElem?_eq_none h'] at h;simp at h
  rw [hb.block g hlt]
  exact h
structure Sane (w:World):Prop where
 out:∃ m,w.cell? ⟨0,0,none⟩=some (.int .i64 m)
 tab : Lib.TabIs Tryz.prog w "internal/strconv.uint64pow10" .u64 Lib.pow10Tab
theorem Sane.lt {w:World} (h:Sane w):0 < w.heap.size:=by
 obtain ⟨m,hm⟩:=h.out
 by_cases hz:0 < w.heap.size
 · exact hz
 · have h0:w.heap[0]? = none:=Array.getElem?_eq_none (by omega)
   simp [World.cell?,h0] at hm
theorem Sane.below {w w':World} (h:Sane w) (hb:Below w.heap.size w w'):Sane w':=by
 obtain ⟨m,hm⟩:=h.out
 exact ⟨⟨m,(hb.cell (p:=⟨0,0,none⟩) h.lt).trans hm⟩,krH h.tab hb⟩
theorem kjF {w:World} (h:w.ShapedOpen Tryz.prog):∃ m,w.cell? ⟨0,0,none⟩=some (.int .i64 m):=Tryz.laysM144.s1_3 w h
theorem Since.sane {w0:World} {g:G} (h:Since w0 g) (hs:Sane w0):Sane g.w:=hs.below h.below
theorem klY {w0:World} (hs:Sane w0) (s t:ByteArray) (hb:s.size < 4294967281) :
 kdT Tryz.prog w0 122 [dv (.str s),dv (.str t)] [] ⟨true,dv (.bool (Lib.contains s.data.toList t.data.toList)),.junk,[],0⟩:=by
 refine knG (fun us w=>?_) (fun g us hsi he hv=>?_)
 · have hf:Tryz.prog.funcs[122]? = some Tryz.f122:=Tryz.func122
   simp [callFunc,Sem.run_bind,run_program,hf]
   rfl
 · obtain ⟨u,v,rfl,hu,hv⟩:=hv.two_eq
   have e:=hu.str_eq
   have e2:=hv.str_eq
   subst e e2
   obtain ⟨m,hm⟩:=(hsi.sane hs).out
   refine (Tryz.strings_Contains s t m g.w hb hm).mono ?_
   rintro e w' ⟨rfl,rfl⟩
   exact ⟨_,rfl,Below.refl _ _,.of_d (.bool _)⟩
theorem kkS {w0:World} (s:ByteArray) (c:Int) :
 kdT Tryz.prog w0 136 [dv (.str s),dv (.int .u8 c)] [] ⟨true,dv (.int .i64 (Lib.indexByte s.data.toList c.toNat.toUInt8)),.junk,[],0⟩:=by
 refine knG (fun us w=>?_) (fun g us hsi he hv=>?_)
 · have hf:Tryz.prog.funcs[136]? = some Tryz.f136:=Tryz.func136
   simp [callFunc,Sem.run_bind,run_program,hf]
   rfl
 · obtain ⟨u,v,rfl,hu,hv⟩:=hv.two_eq
   have e:=hu.str_eq
   have e2:=hv.int_eq
   subst e e2
   refine (Tryz.strings_IndexByte s c g.w).mono ?_
   rintro e w' ⟨rfl,rfl⟩
   exact ⟨_,rfl,Below.refl _ _,.of_d (.int _ _)⟩
theorem kAR {w0:World} (hs:Sane w0) (n:Int) (h0:-9223372036854775808<=n) (h1:n<=9223372036854775807) :
 kdT Tryz.prog w0 56 [dv (.int .i64 n)] [] ⟨true,dv (.str ⟨(Lib.itoa n).toArray⟩),.junk,[],0⟩:=by
 refine knG (fun us w=>?_) (fun g us hsi he hv=>?_)
 · have hf:Tryz.prog.funcs[56]? = some Tryz.f56:=Tryz.func56
   simp [callFunc,Sem.run_bind,run_program,hf]
   rfl
 · obtain ⟨u,rfl,hu⟩:=hv.one_eq
   have e:=hu.int_eq
   subst e
   refine (Tryz.strconv_Itoa n h0 h1 g.w (hsi.sane hs).tab).mono ?_
   rintro e w' ⟨rfl,k,os,rfl⟩
   exact ⟨_,rfl,Lib.below_grow g.w.heap.size g.w (Nat.le_refl _) k os,.of_d (.str _)⟩
def kdq:List (List D)->Option (List ByteArray)
 | []=>some []
 | r :: rs=>match dat r 0,kdq rs with
  | .str s,some l=>some (s :: l)
  | _,_=>none
theorem kiR:∀ {rs:List (List D)} {l:List ByteArray},kdq rs=some l->l.length=rs.length∧∀ (j:Nat) x,l[j]? = some x->j < rs.length∧dat (rs.getD j []) 0=.str x
 | [],l,h=>by cases h;exact ⟨rfl,fun j x hj=>by cases hj⟩
 | r :: rs,l,h=>by
  unfold kdq at h
  split at h
  · rename_i s l' h1 h2
    cases h
    obtain ⟨h3,h4⟩:=kiR h2
    refine ⟨by simp [h3],fun j x hj=>?_⟩
    cases j with
    | zero=>cases hj;exact ⟨by simp,h1⟩
    | succ j =>
     obtain ⟨h5,h6⟩:=h4 j x hj
     exact ⟨by simp;omega,h6⟩
  · cases h
def kkT (l:List ByteArray) (sep:ByteArray):ByteArray:=⟨(Lib.join (l.map (·.data.toList)) sep.data.toList).toArray⟩
theorem kAS {w0:World} (x:V) (rs:List (List D)) (l:List ByteArray) (sep:ByteArray) (hx:∀ g u,RepV g x u->RepD g.w g.φ (.list 1 rs) u) (ht:kdq rs=some l) (h1:l.length<=140737488355328)
 (h2:(Lib.join (l.map (·.data.toList)) sep.data.toList).length<=140737488355328):kdT Tryz.prog w0 54 [x,dv (.str sep)] [] ⟨true,dv (.str (kkT l sep)),.junk,[],0⟩:=by
 refine knG (fun us w=>?_) (fun g us hsi he hv=>?_)
 · have hf:Tryz.prog.funcs[54]? = some Tryz.f54:=Tryz.func54
   simp [callFunc,Sem.run_bind,run_program,hf]
   rfl
 · obtain ⟨u,v,rfl,hu,hv⟩:=hv.two_eq
   have e:=hv.str_eq
   subst e
   have hd:=hx g u hu
   obtain ⟨hlen,hat⟩:=kiR ht
   cases hd with
   | nil sz A c =>
    have:l=[]:=List.eq_nil_of_length_eq_zero hlen
    subst this
    refine (Tryz.strings_Join_none A c sep g.w).mono ?_
    rintro e w' ⟨rfl,rfl⟩
    exact ⟨_,rfl,Below.refl _ _,.of_d (by
     have:kkT [] sep=⟨#[]⟩:=by unfold kkT Lib.join;simp
     rw [this]
     exact .str _)⟩
   | list sz rows b off c vs hc hb hcell hone hrep =>
    cases hr:rs with
    | nil =>
     subst hr
     have:l=[]:=List.eq_nil_of_length_eq_zero hlen
     subst this
     refine (Tryz.strings_Join_none _ c sep g.w).mono ?_
     rintro e w' ⟨rfl,rfl⟩
     exact ⟨_,rfl,Below.refl _ _,.of_d (by
      have:kkT [] sep=⟨#[]⟩:=by unfold kkT Lib.join;simp
      rw [this]
      exact .str _)⟩
    | cons r0 rs0 =>
     rw [<- hr]
     have hpos:0 < rs.length:=by rw [hr];simp
     have hbk:b < g.w.heap.size:=by
      rcases Nat.lt_or_ge b g.w.heap.size with h | h
      · exact h
      · have:=he.fresh b h
        omega
     rw [<- hlen]
     refine (Tryz.strings_Join b off c l sep g.w (fun j x hj=>?_) hbk h1 (by omega) h2).mono ?_
     · obtain ⟨h3,h4⟩:=hat j x hj
       have h5:=hcell j 0 h3 (by omega)
       have h6:=hrep j 0 h3 (by omega)
       rw [h4] at h6
       have h7:vs j 0=.string x:=by generalize vs j 0=y at h6;cases h6;rfl
       rw [h7] at h5
       have:j*1+0=j:=by omega
       rw [this] at h5
       exact h5
     · rintro e w' ⟨rfl,hb'⟩
       exact ⟨_,rfl,hb',.of_d (.str _)⟩
end Go.Proofs.YtaphnbaiamnfpaaGreatDoor.Ps
