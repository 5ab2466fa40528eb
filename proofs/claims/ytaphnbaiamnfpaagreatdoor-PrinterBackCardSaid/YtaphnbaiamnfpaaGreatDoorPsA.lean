/- Plain data that stand for values in memory; what it means that a value reads as plain data; that it goes on reading so. -/
import Derived.Below
import Derived.Laws.AppendOwn
import Derived.Laws.Slices
import Derived.Tactics
import Derived.WalkKit
import Derived.KernelRfl
import Derived.Orders
import Derived.Defers
namespace Go.Proofs.YtaphnbaiamnfpaaGreatDoor.Ps
set_option linter.unusedVariables false
set_option linter.unusedSimpArgs false
open Go Go.RowKit
inductive D where
 | bool (b:Bool)
 | int (k:IntKind) (n:Int)
 | str (s:ByteArray)
 | list (sz:Nat) (rows:List (List D))
 | nilI
 | nilP
 | err
 | iface (t:TypeId) (row:List D)
 | junk
deriving Inhabited
inductive X where
 | d (x:D)
 | own (κ:Nat) (e:TypeId) (sz:Nat) (rows:List (List D))
 | nilL (sz:Nat)
 | ptr (b off:Nat)
 | rptr (sz:Nat) (row:List D) (off:Nat)
 | fn (f:FuncId) (caps:List X)
 | slf (b:Nat)
deriving Inhabited
inductive V where
 | one (x:X)
 | agg (cs:List X)
 | tup (vs:List V)
 | junk
deriving Inhabited
def dat (r:List D) (j:Nat):D:=r.getD j .junk
inductive RepD (w:World) (φ:Nat->Nat):D->Value->Prop
 | bool (b:Bool):RepD w φ (.bool b) (.bool b)
 | int (k:IntKind) (n:Int):RepD w φ (.int k n) (.int k n)
 | str (s:ByteArray):RepD w φ (.str s) (.string s)
 | nil (sz:Nat) (A:Option Addr) (c:Nat):RepD w φ (.list sz []) (.slice A 0 c)
 | list (sz:Nat) (rows:List (List D)) (b off c:Nat) (vs:Nat->Nat->Value) (hc:rows.length<=c) (hb:off+rows.length*sz<=φ b)
  (hcell:∀ i j,i < rows.length->j < sz->w.cell? ⟨b,off+(i*sz+j),none⟩=some (vs i j))
  (hone:∀ i j,i < rows.length->j < sz->(vs i j).oneCell'=true)
  (hrep:∀ i j,i < rows.length->j < sz->RepD w φ (dat (rows.getD i []) j) (vs i j)):RepD w φ (.list sz rows) (.slice (some ⟨b,off,none⟩) rows.length c)
 | nilI:RepD w φ .nilI .nilIface
 | nilP:RepD w φ .nilP (.pointer none)
 | err (t:TypeId) (v:Value):RepD w φ .err (.iface t v)
 | iface (t:TypeId) (row:List D) (vs:List Value) (hl:vs.length=row.length) (hrep:∀ j,j < row.length->RepD w φ (dat row j) (vs.getD j undef)):RepD w φ (.iface t row) (.iface t (.agg vs.toArray))
 | junk (v:Value) (h:v.oneCell'=true):RepD w φ .junk v
theorem RepD.one {w:World} {φ:Nat->Nat} {d:D} {v:Value} (h:RepD w φ d v):v.oneCell'=true:=by
 cases h<;>first | rfl | assumption
structure Ext (w:World) (φ:Nat->Nat) (w':World) (φ':Nat->Nat):Prop where
 cell:∀ b o,o < φ b->w'.cell? ⟨b,o,none⟩=w.cell? ⟨b,o,none⟩
 le:∀ b,φ b<=φ' b
theorem Ext.refl (w:World) (φ:Nat->Nat):Ext w φ w φ:=⟨fun _ _ _=>rfl,fun _=>Nat.le_refl _⟩
theorem Ext.trans {w w' w'':World} {φ φ' φ'':Nat->Nat} (h:Ext w φ w' φ') (k:Ext w' φ' w'' φ''):Ext w φ w'' φ'' :=
 ⟨fun b o ho=>(k.cell b o (Nat.lt_of_lt_of_le ho (h.le b))).trans (h.cell b o ho),fun b=>Nat.le_trans (h.le b) (k.le b)⟩
theorem kq2 {i j n sz:Nat} (hi:i < n) (hj:j < sz):i*sz+j < n*sz:=by
 have h1:(i+1)*sz<=n*sz:=Nat.mul_le_mul_right sz hi
 rw [Nat.add_mul,Nat.one_mul] at h1
 omega
theorem RepD.mono {w w':World} {φ φ':Nat->Nat} (e:Ext w φ w' φ') {d:D} {v:Value} (h:RepD w φ d v):RepD w' φ' d v:=by
 induction h with
 | bool b=>exact .bool b
 | int k n=>exact .int k n
 | str s=>exact .str s
 | nil sz A c=>exact .nil sz A c
 | list sz rows b off c vs hc hb hcell hone _ ih =>
  exact .list sz rows b off c vs hc (Nat.le_trans hb (e.le b)) (fun i j hi hj=>by
   have:=kq2 hi hj
   rw [e.cell b _ (by omega)]
   exact hcell i j hi hj) hone ih
 | nilI=>exact .nilI
 | nilP=>exact .nilP
 | err t v=>exact .err t v
 | iface t row vs hl _ ih=>exact .iface t row vs hl ih
 | junk v h=>exact .junk v h
def kpk:TypeId:=65
def TyAt (w:World) (B:Nat) (T:TypeId):Prop:=∃ cs fr,w.heap[B]? = some (.cells cs T fr)
structure G where
 w:World
 φ:Nat->Nat
 β:Nat->Option Nat
 gk:Nat->Option (TypeId × Nat × Value)
 us:Nat->Prop
inductive RepX (g:G):X->Value->Prop
 | d (x:D) (v:Value) (h:RepD g.w g.φ x v):RepX g (.d x) v
 | own (κ:Nat) (e:TypeId) (sz:Nat) (rows:List (List D)) (v:Value) (h:RepD g.w g.φ (.list sz rows) v)
  (hk:∀ e' s' u,g.gk κ=some (e',s',u)->e'=e∧s'=sz∧v=u) (hlt:g.us κ):RepX g (.own κ e sz rows) v
 | nilL (sz:Nat):RepX g (.nilL sz) (.slice none 0 0)
 | ptr (b B off:Nat) (h:g.β b=some B):RepX g (.ptr b off) (.pointer (some ⟨B,off,none⟩))
 | rptr (sz:Nat) (row:List D) (b o off:Nat) (vs:Nat->Value) (hb:o+sz<=g.φ b) (hcell:∀ j,j < sz->g.w.cell? ⟨b,o+j,none⟩=some (vs j))
  (hone:∀ j,j < sz->(vs j).oneCell'=true) (hrep:∀ j,j < sz->RepD g.w g.φ (dat row j) (vs j)):RepX g (.rptr sz row off) (.pointer (some ⟨b,o+off,none⟩))
 | fn (f:FuncId) (caps:List X) (vs:List Value) (hl:vs.length=caps.length) (hrep:∀ j,j < caps.length->RepX g (caps.getD j (.d .junk)) (vs.getD j undef)):RepX g (.fn f caps) (.func (.func f) #[] vs.toArray)
 | slf0 (b B:Nat) (h:g.β b=some B) (ht:TyAt g.w B kpk):RepX g (.slf b) (.pointer none)
 | slf1 (b B:Nat) (h:g.β b=some B):RepX g (.slf b) (.pointer (some ⟨B,0,none⟩))
theorem RepX.one {g:G} {x:X} {v:Value} (h:RepX g x v):v.oneCell'=true:=by
 cases h with
 | d x v h=>exact h.one
 | own κ e sz rows v h hk hlt=>exact h.one
 | _=>rfl
inductive RepV (g:G):V->Value->Prop
 | one (x:X) (v:Value) (h:RepX g x v):RepV g (.one x) v
 | agg (cs:List X) (vs:List Value) (hl:vs.length=cs.length) (hrep:∀ j,j < cs.length->RepX g (cs.getD j (.d .junk)) (vs.getD j undef)):RepV g (.agg cs) (.agg vs.toArray)
 | tup (xs:List V) (vs:List Value) (hl:vs.length=xs.length) (hrep:∀ j,j < xs.length->RepV g (xs.getD j .junk) (vs.getD j undef)):RepV g (.tup xs) (.tuple vs.toArray)
 | junk (v:Value):RepV g .junk v
def Mut (g:G) (b:Nat):Prop:=(∃ i,g.β i=some b)∨(∃ κ e s u,g.gk κ=some (e,s,u)∧u.ownBlock=some b)
structure Step (g g':G):Prop where
 os:g'.w.os=g.w.os
 tape:g'.w.tape=g.w.tape
 output:g'.w.output=g.w.output
 size:g.w.heap.size<=g'.w.heap.size
 ext:Ext g.w g.φ g'.w g'.φ
 keep:∀ b,b < g.w.heap.size->¬ Mut g b->g'.w.heap[b]? = g.w.heap[b]?∧g'.φ b=g.φ b
 wri:∀ b,Mut g' b->Mut g b∨g.w.heap.size<=b
theorem Step.refl (g:G):Step g g:=⟨rfl,rfl,rfl,Nat.le_refl _,Ext.refl _ _,fun _ _ _=>⟨rfl,rfl⟩,fun _ h=>.inl h⟩
theorem Step.trans {g g' g'':G} (h:Step g g') (k:Step g' g''):Step g g'' where
 os:=k.os.trans h.os
 tape:=k.tape.trans h.tape
 output:=k.output.trans h.output
 size:=Nat.le_trans h.size k.size
 ext:=h.ext.trans k.ext
 keep:=fun b hb hn=>by
  obtain ⟨h1,h2⟩:=h.keep b hb hn
  obtain ⟨k1,k2⟩:=k.keep b (Nat.lt_of_lt_of_le hb h.size) (fun hm=>by
   rcases h.wri b hm with hm | hm
   · exact hn hm
   · omega)
  exact ⟨k1.trans h1,k2.trans h2⟩
 wri:=fun b hb=>by
  rcases k.wri b hb with hb | hb
  · exact h.wri b hb
  · exact .inr (Nat.le_trans h.size hb)
structure Keeps (g g':G):Prop where
 ext:Ext g.w g.φ g'.w g'.φ
 β:∀ i B,g.β i=some B->g'.β i=some B
 gk:∀ κ,g.us κ->∀ t,g'.gk κ=some t->g.gk κ=some t
 us:∀ κ,g.us κ->g'.us κ
 ty:∀ i B T,g.β i=some B->TyAt g.w B T->TyAt g'.w B T
theorem Keeps.refl (g:G):Keeps g g:=⟨Ext.refl _ _,fun _ _ h=>h,fun _ _ _ h=>h,fun _ h=>h,fun _ _ _ _ h=>h⟩
theorem Keeps.trans {g g' g'':G} (h:Keeps g g') (k:Keeps g' g''):Keeps g g'' :=
 ⟨h.ext.trans k.ext,fun i B e=>k.β i B (h.β i B e),fun κ hκ t e=>h.gk κ hκ t (k.gk κ (h.us κ hκ) t e),fun κ hκ=>k.us κ (h.us κ hκ),fun i B T hi ht=>k.ty i B T (h.β i B hi) (h.ty i B T hi ht)⟩
theorem RepX.mono {g g':G} (k:Keeps g g') {x:X} {v:Value} (h:RepX g x v):RepX g' x v:=by
 induction h with
 | d x v h=>exact .d x v (h.mono k.ext)
 | own κ e sz rows v h hk hlt=>exact .own κ e sz rows v (h.mono k.ext) (fun e' s' u hu=>hk e' s' u (k.gk κ hlt _ hu)) (k.us κ hlt)
 | nilL sz=>exact .nilL sz
 | ptr b B off h=>exact .ptr b B off (k.β b B h)
 | rptr sz row b o off vs hb hcell hone hrep =>
  exact .rptr sz row b o off vs (Nat.le_trans hb (k.ext.le b)) (fun j hj=>by rw [k.ext.cell b _ (by omega)];exact hcell j hj) hone (fun j hj=>(hrep j hj).mono k.ext)
 | fn f caps vs hl _ ih=>exact .fn f caps vs hl ih
 | slf0 b B h ht=>exact .slf0 b B (k.β b B h) (k.ty b B _ h ht)
 | slf1 b B h=>exact .slf1 b B (k.β b B h)
theorem RepV.mono {g g':G} (k:Keeps g g') {x:V} {v:Value} (h:RepV g x v):RepV g' x v:=by
 induction h with
 | one x v h=>exact .one x v (h.mono k)
 | agg cs vs hl h=>exact .agg cs vs hl (fun j hj=>(h j hj).mono k)
 | tup xs vs hl _ ih=>exact .tup xs vs hl ih
 | junk v=>exact .junk v
end Go.Proofs.YtaphnbaiamnfpaaGreatDoor.Ps
