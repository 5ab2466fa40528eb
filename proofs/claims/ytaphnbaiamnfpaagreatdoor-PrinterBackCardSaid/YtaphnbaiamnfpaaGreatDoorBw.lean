/- A strings.Builder that lies in a block of a struct's own: copyCheck, WriteString and String, walked; conditions as written. -/
import Derived.Test.YtaphnbaiamnfpaaGreatDoorProg
import Derived.Lib.Strings
import Derived.Lib.Builder
import Derived.Lib.AppendStr
import Derived.Lib.UnsafeStr
import Derived.Lib.MakeNoZero
import Derived.WalkKit
import Derived.Laws.Externs
namespace Go.Proofs.YtaphnbaiamnfpaaGreatDoor
set_option linter.unusedVariables false
set_option linter.unusedSimpArgs false
open Go Go.RowKit
abbrev bT:TypeId:=65
theorem kyk:(Tryz.prog.info? 63).map (·.size)=some 2:=by kernel_rfl
theorem kDQ:liesAt Tryz.prog Tryz.prog.depth bT (2 / Tryz.prog.cellsOf bT) 0 63 1=true:=by kernel_rfl
set_option maxHeartbeats 1000000 in
set_option maxRecDepth 100000 in
theorem kpC (b:Nat) (w:World) (h0:w.cell? ⟨b,0,none⟩=some (.pointer (some ⟨b,0,none⟩))) :
 Calls Tryz.prog 92 #[.pointer (some ⟨b,0,none⟩)] w fun e w'=>e=.returned (.tuple #[])∧w'=w:=by
 obtain ⟨j,hj,_⟩:=Option.map_eq_some_iff.1 kyk
 go_enter Tryz.func92,Tryz.ntmps92
 go_wp2
 rw [Lib.run_neq_ptr_same w _ Tryz.underlying60 hj]
 go_wp2
 go_end0
 exact ⟨rfl,rfl⟩
set_option maxHeartbeats 1000000 in
set_option maxRecDepth 100000 in
theorem klW (b:Nat) (w:World) (h0:w.cell? ⟨b,0,none⟩=some (.pointer none)) (hsh:w.shape? b=some (bT,2)) (hfz:w.frozen? ⟨b,0,none⟩=false) :
 Calls Tryz.prog 92 #[.pointer (some ⟨b,0,none⟩)] w fun e w'=>e=.returned (.tuple #[])∧w'=w.setCell ⟨b,0,none⟩ (.pointer (some ⟨b,0,none⟩)):=by
 obtain ⟨j,hj,hjs⟩:=Option.map_eq_some_iff.1 kyk
 go_enter Tryz.func92,Tryz.ntmps92
 go_wp2
 rw [Lib.run_to_unsafe w ⟨b,0,none⟩ Tryz.underlying60 Tryz.underlying143 hj (by rw [hjs];decide) hsh (Nat.zero_lt_succ 1)]
 simp only [Result.andThen]
 rw [Oper.upon_value]
 go_wp2
 rw [run_callFunc_extern Tryz.func113 (by kernel_rfl) (by kernel_rfl) (by kernel_rfl) (e:=Extern.AbiNoEscape.same) (by kernel_rfl)]
 rw [Lib.run_noEscape]
 simp only [Result.andThen]
 rw [Oper.upon_value]
 go_wp2
 rw [Lib.run_from_unsafe w ⟨b,0,none⟩ Tryz.underlying143 Tryz.underlying60 hj hsh kDQ]
 simp only [Result.andThen]
 rw [Oper.upon_value]
 go_wp2
 go_end0
 exact ⟨rfl,rfl⟩
section
variable {P:Program} (w:World)
theorem kpD (t u ty e:TypeId) (i:TypeInfo) (ht:P.underlying t=some (.slice e)) (hu:P.underlying u=some .string) (hi:P.info? e=some i) (hz:i.zero=some (.int .u8 0))
 (hsize:i.size=1) (hby:i.bytes=1) (v:Value) (n:Nat) (xs:List Value) (hown:w.ownsRow 0 e 1 v n xs) (s:ByteArray) (hb:n+s.size<=140737488355328) :
 ∃ v' w',(Builtin.append_ #[t,u] ty #[v,.string s]).run P w=.ok v' w'∧w'.ownsRow 0 e 1 v' (n+s.size) (xs++Lib.strCells s)∧w.grownBy w' v.ownBlock ∧
  (∀ q,v'.ownBlock=some q->w.heap.size<=q∨v.ownBlock=some q)∧(∀ q,v.ownBlock=some q->∀ o',o' < n->w'.cell? ⟨q,o',none⟩=w.cell? ⟨q,o',none⟩):=by
 have h63:n+s.size<=maxLen:=by unfold maxLen;omega
 obtain ⟨v',w',hr,h1,h2,h3⟩:=Lib.run_append_own_string (P:=P) w 0 t u ty e i ht hu hi hz hsize hby v n xs hown s h63 hb (Nat.zero_le _)
 have hxl:xs.length=n:=by simpa using hown.1
 refine ⟨v',w',hr,h1,h2,?_⟩
 rcases hown.2 with ⟨e1,e2⟩ | ⟨g,cap,cur,e1,hbg,hg,hnc,hcm,hcs,htake⟩
 · subst e1
   by_cases hm:s.size=0
   · have hv:v'=.slice none 0 0:=h3.2 ⟨rfl,hm⟩
     subst hv
     exact ⟨(fun q hq=>by cases hq),(fun q hq=>by cases hq)⟩
   · subst e2
     have hr2:=run_append_nil_string (P:=P) w t u ty e i (.int .u8 0) ht hu hi hz s (by omega) (by omega) (by rw [hby];omega)
     rw [hr] at hr2
     injection hr2 with e3 e4
     subst e3
     exact ⟨(fun q hq=>by cases hq;exact .inl (Nat.le_refl _)),(fun q hq=>by cases hq)⟩
 · subst e1
   by_cases hroom:n+s.size<=cap
   · have hr2:=Lib.run_append_room_string (P:=P) w t u ty e i ht hu hi hsize g n cap cur hg s hroom (by omega)
     rw [hr] at hr2
     injection hr2 with e3 e4
     subst e3
     refine ⟨fun q hq=>.inr hq,fun q hq o' ho'=>?_⟩
     cases hq
     have hlt:o' < xs.length:=by omega
     have k1:=h1.cells (g:=g) rfl o' xs[o'] (by rw [List.getElem?_append_left hlt,List.getElem?_eq_getElem hlt])
     have k2:=hown.cells (g:=g) rfl o' xs[o'] (List.getElem?_eq_getElem hlt)
     have ea:((⟨g,0,none⟩:Addr).add o')=⟨g,o',none⟩:=by
      unfold Addr.add
      split
      · rename_i h;subst h;rfl
      · rw [Nat.zero_add]
     rw [ea] at k1 k2
     rw [k1,k2]
   · have holds:∀ j u,xs[j]? = some u->w.cell? ((⟨g,0,none⟩:Addr).add j)=some u:=hown.cells (g:=g) rfl
     have hr2:=Lib.run_append_grow_string (P:=P) w t u ty e i (.int .u8 0) ht hu hi hz ⟨g,0,none⟩ n cap xs (by rw [hsize];simpa using hxl) holds s (by omega) (by omega) (by rw [hby];exact growslice_fits (by omega) (by omega))
     rw [hr] at hr2
     injection hr2 with e3 e4
     subst e3
     subst e4
     refine ⟨(fun q hq=>by cases hq;exact .inl (Nat.le_refl _)),fun q hq o' ho'=>?_⟩
     cases hq
     exact World.cell?_of_block (Go.heap_alloc_old w.drew _ (Array.getElem?_eq_some_iff.1 hg).1)
theorem kgh {ops:Array Oper} {rest:List Oper} {o:Oper} {a:Act} {Q:Exit->Act->World->Prop} (hgd:o.guard=none) (sl x:Operand) (t u:TypeId)
 (ho:o.op=.call { callee:=.builtin .append,args:=#[sl,x],argTypes:=#[t,u] })
 (e:TypeId) (i:TypeInfo) (ht:P.underlying t=some (.slice e)) (hu:P.underlying u=some .string) (hi:P.info? e=some i) (hz:i.zero=some (.int .u8 0))
 (hsize:i.size=1) (hby:i.bytes=1) (v:Value) (n:Nat) (xs:List Value) (hs:a.eval sl=v) (hown:w.ownsRow 0 e 1 v n xs) (s:ByteArray) (hx:a.eval x=.string s) (hbytes:n+s.size<=140737488355328)
 (h:∀ v' w',w'.ownsRow 0 e 1 v' (n+s.size) (xs++Lib.strCells s)->w.grownBy w' v.ownBlock->(∀ q,v'.ownBlock=some q->w.heap.size<=q∨v.ownBlock=some q) ->
  (∀ q,v.ownBlock=some q->∀ o',o' < n->w'.cell? ⟨q,o',none⟩=w.cell? ⟨q,o',none⟩)->wpList P ops Q rest (a.put o.dst v') w'):wpList P ops Q (o :: rest) a w:=by
 refine wpList_plain hgd fun K hK=>?_
 obtain ⟨v',w',hr,h2,h3,h4,h5⟩:=kpD (P:=P) w t u o.type e i ht hu hi hz hsize hby v n xs hown s hbytes
 unfold Oper.wp execOp
 simp only [ho,resolve,invoke,builtin,Sem.run_bind,Sem.run_pure,Result.andThen_ok,List.map_toArray,List.map_cons,List.map_nil,hs,hx,hr]
 exact hK _ _ (h v' w' h2 h3 h4 h5)
end
theorem kfB (w:World) (a:Addr) (v:Value) (k:Nat) (h:k ≠ a.block):(w.setCell a v).heap[k]? = w.heap[k]?:=Below.heap_setCell _ _ _ _ h
theorem kiQ {w w':World} {e n:Nat} {u:Value} {xs:List Value} (h:w.ownsRow 0 e 1 u n xs) (hs:∀ b,u.ownBlock=some b->w'.heap[b]? = w.heap[b]?):w'.ownsRow 0 e 1 u n xs:=by
 refine ⟨h.1,?_⟩
 rcases h.2 with hn | ⟨g,cap,cur,rfl,hb,hg,rest⟩
 · exact .inl hn
 · exact .inr ⟨g,cap,cur,rfl,hb,by rw [hs g rfl];exact hg,rest⟩
structure Written (b n:Nat) (v:Value) (w:World) (v':Value) (w':World):Prop where
 os:w'.os=w.os
 tape:w'.tape=w.tape
 output:w'.output=w.output
 size:w.heap.size<=w'.heap.size
 block:∀ k,k < w.heap.size->k ≠ b->some k ≠ v.ownBlock->w'.heap[k]? = w.heap[k]?
 fresh:∀ q,v'.ownBlock=some q->w.heap.size<=q∨v.ownBlock=some q
 keep:∀ q,v.ownBlock=some q->∀ o',o' < n->w'.cell? ⟨q,o',none⟩=w.cell? ⟨q,o',none⟩
theorem kAP:(Tryz.prog.info? 5).map (fun i=>(i.zero,i.size,i.bytes))=some (some (.int .u8 0),1,1):=by kernel_rfl
theorem kuL:∃ i,Tryz.prog.info? 5=some i∧i.zero=some (.int .u8 0)∧i.size=1∧i.bytes=1:=by
 obtain ⟨i,hi,h⟩:=Option.map_eq_some_iff.1 kAP
 injection h with h1 h2
 injection h2 with h2 h3
 exact ⟨i,hi,h1,h2,h3⟩
theorem klX (b:Nat) (p v:Value) (T:TypeId) (w:World) (hbk:w.heap[b]? = some (.cells #[p,v] T (0,0))) (hp:(p=.pointer none∧T=bT)∨p=.pointer (some ⟨b,0,none⟩)) :
 Calls Tryz.prog 92 #[.pointer (some ⟨b,0,none⟩)] w fun e w'=>e=.returned (.tuple #[])∧w'.heap[b]? = some (.cells #[.pointer (some ⟨b,0,none⟩),v] T (0,0)) ∧
  w'.os=w.os∧w'.tape=w.tape∧w'.output=w.output∧w'.heap.size=w.heap.size∧∀ k,k ≠ b->w'.heap[k]? = w.heap[k]?:=by
 have c0:w.cell? ⟨b,0,none⟩=some p:=by rw [Lib.cell_of_heap hbk];rfl
 rcases hp with ⟨rfl,rfl⟩ | rfl
 · refine (klW b w c0 (by simp [World.shape?,hbk]) (by simp [World.frozen?,hbk])).mono ?_
   rintro e w' ⟨rfl,rfl⟩
   exact ⟨rfl,by simp [World.setCell,Array.getElem?_modify,hbk],rfl,rfl,rfl,by simp [World.setCell],fun k hk=>kfB _ _ _ _ hk⟩
 · refine (kpC b w c0).mono ?_
   rintro e w' ⟨rfl,rfl⟩
   exact ⟨rfl,hbk,rfl,rfl,rfl,rfl,fun _ _=>rfl⟩
set_option maxHeartbeats 2000000 in
set_option maxRecDepth 100000 in
theorem kpE (b n:Nat) (p v:Value) (T:TypeId) (xs:List Value) (s:ByteArray) (w:World) (hbk:w.heap[b]? = some (.cells #[p,v] T (0,0))) (hp:(p=.pointer none∧T=bT)∨p=.pointer (some ⟨b,0,none⟩))
 (hown:w.ownsRow 0 5 1 v n xs) (hne:v.ownBlock ≠ some b) (hlen:n+s.size<=140737488355328) :
 Calls Tryz.prog 53 #[.pointer (some ⟨b,0,none⟩),.string s] w fun e w'=>e=.returned (.tuple #[.int .i64 s.size,.nilIface]) ∧
  ∃ v',w'.heap[b]? = some (.cells #[.pointer (some ⟨b,0,none⟩),v'] T (0,0))∧w'.ownsRow 0 5 1 v' (n+s.size) (xs++Lib.strCells s)∧Written b n v w v' w':=by
 obtain ⟨i0,hi,hz0,hz1,hz2⟩:=kuL
 go_enter Tryz.func53,Tryz.ntmps53
 go_wp2_with (go_at_call 92;(with_reducible refine (klX _ _ _ _ _ hbk hp).mono ?_))
 rintro e w1 ⟨rfl,hb1,ho,ht,hou,hsz,hoth⟩
 have c0:w1.cell? ⟨b,0,none⟩=some (.pointer (some ⟨b,0,none⟩)):=by rw [Lib.cell_of_heap hb1];rfl
 have c1:w1.cell? ⟨b,1,none⟩=some v:=by rw [Lib.cell_of_heap hb1];rfl
 have hown1:w1.ownsRow 0 5 1 v n xs:=kiQ hown fun q hq=>hoth q (fun e=>hne (e▸hq))
 go_wp2_with (at_builtin;refine kgh _ rfl _ _ 61 9 rfl 5 i0 Tryz.underlying61 Tryz.underlying9 hi hz0 hz1 hz2 _ _ _ rfl hown1 s rfl hlen ?_)
 intro v' w2 hown2 hgrow hfresh hkeep
 have hlt:b < w1.heap.size:=by
  rcases Nat.lt_or_ge b w1.heap.size with h' | h'
  · exact h'
  · simp [Array.getElem?_eq_none h'] at hb1
 have hb2:w2.heap[b]? = some (.cells #[.pointer (some ⟨b,0,none⟩),v] T (0,0)):=by
  rw [hgrow.block b hlt (fun e=>hne e.symm)]
  exact hb1
 have d0:w2.cell? ⟨b,0,none⟩=some (.pointer (some ⟨b,0,none⟩)):=by rw [Lib.cell_of_heap hb2];rfl
 have d1:w2.cell? ⟨b,1,none⟩=some v:=by rw [Lib.cell_of_heap hb2];rfl
 have f1:w2.frozen? ⟨b,1,none⟩=false:=Lib.frozen_of_heap hb2 1
 have hne':v'.ownBlock ≠ some b:=fun hq=>by
  rcases hfresh b hq with h | h
  · omega
  · exact hne h
 obtain ⟨ao,n',cap,rfl⟩:∃ ao n' cap,v'=.slice ao n' cap:=by
  rcases hown2.2 with ⟨hv,_⟩ | ⟨g,cap,cur,hv,_⟩
  · exact ⟨_,_,_,hv⟩
  · exact ⟨_,_,_,hv⟩
 go_wp2
 go_ret2
 refine ⟨rfl,_,by simp [World.setCell,Array.getElem?_modify,hb2],kiQ hown2 fun q hq=>kfB _ _ _ _ (fun e=>hne' (by rw [hq,e])),?_⟩
 have hcell:∀ q o',q ≠ b->(w2.setCell ⟨b,1,none⟩ (.slice ao n' cap)).cell? ⟨q,o',none⟩=w2.cell? ⟨q,o',none⟩:=fun q o' hq=>World.cell?_of_block (kfB _ _ _ _ hq)
 exact ⟨hgrow.os.trans ho,hgrow.tape.trans ht,hgrow.output.trans hou,by have:=hgrow.size;simp only [World.setCell,Array.size_modify];omega,
  fun k hk hkb hkv=>(kfB _ _ _ _ hkb).trans ((hgrow.block k (by omega) hkv).trans (hoth k hkb)),fun q hq=>by
   rcases hfresh q hq with h | h
   · exact .inl (by omega)
   · exact .inr h,fun q hq o' ho'=>by
   have hqb:q ≠ b:=fun e=>hne (e▸hq)
   rw [hcell q o' hqb,hkeep q hq o' ho']
   exact World.cell?_of_block (hoth q hqb)⟩
structure Looked (v:Value) (w w':World):Prop where
 os:w'.os=w.os
 tape:w'.tape=w.tape
 output:w'.output=w.output
 size:w.heap.size<=w'.heap.size
 block:∀ k,k < w.heap.size->some k ≠ v.ownBlock->w'.heap[k]? = w.heap[k]?
 cell:∀ k o,k < w.heap.size->w'.cell? ⟨k,o,none⟩=w.cell? ⟨k,o,none⟩
theorem kjE (g n m c:Nat) (w:World):Looked (.slice (some ⟨g,0,none⟩) m c) w (w.drew.freeze ⟨g,0,none⟩ n):=by
 by_cases hn:n=0
 · have e:w.drew.freeze ⟨g,0,none⟩ n=w.drew:=by unfold World.freeze;rw [if_pos hn]
   rw [e]
   exact ⟨rfl,rfl,rfl,Nat.le_refl _,fun _ _ _=>rfl,fun _ _ _=>rfl⟩
 · obtain ⟨f,hf⟩:∃ f:Obj->Obj,w.drew.freeze ⟨g,0,none⟩ n={ w.drew with heap:=w.drew.heap.modify g f }∧(∀ cs T fr,∃ fr',f (.cells cs T fr)=.cells cs T fr')∧∀ ob,(∀ cs T fr,ob ≠ .cells cs T fr)->f ob=ob:=by
    unfold World.freeze
    rw [if_neg hn]
    exact ⟨_,rfl,fun cs T fr=>⟨_,rfl⟩,fun ob h=>by
     cases ob with
     | cells cs T fr=>exact absurd rfl (h cs T fr)
     | _=>rfl⟩
   obtain ⟨hf,hfc,hfo⟩:=hf
   rw [hf]
   have hb:∀ k,k ≠ g->(w.drew.heap.modify g f)[k]? = w.heap[k]?:=fun k hk=>by
    rw [Array.getElem?_modify,if_neg (Ne.symm hk)]
    rfl
   refine ⟨rfl,rfl,rfl,by show w.heap.size<=(w.drew.heap.modify g f).size;rw [Array.size_modify];exact Nat.le_refl _,fun k _ hk=>hb k (fun e=>hk (by rw [e];rfl)),fun k o _=>?_⟩
   by_cases hk:k=g
   · subst hk
     unfold World.cell?
     show (match (w.drew.heap.modify k f)[k]? with | some (.cells cs _ _)=>_ | _=>_)=_
     rw [Array.getElem?_modify,if_pos rfl]
     have ew:w.drew.heap=w.heap:=rfl
     rw [ew]
     cases hq:w.heap[k]? with
     | none=>rfl
     | some ob =>
      cases ob with
      | cells cs T fr =>
       obtain ⟨fr',h'⟩:=hfc cs T fr
       simp only [Option.map_some,h']
      | _=>rw [Option.map_some,hfo _ (fun _ _ _ h=>by cases h)]
   · exact World.cell?_of_block (hb k hk)
set_option maxHeartbeats 2000000 in
set_option maxRecDepth 100000 in
theorem kuM (b:Nat) (p:Value) (T:TypeId) (g cap:Nat) (cur:Array Value) (l:List UInt8) (w:World) (h0:l ≠ []) (hbk:w.heap[b]? = some (.cells #[p,.slice (some ⟨g,0,none⟩) l.length cap] T (0,0)))
 (hg:w.heap[g]? = some (.cells cur 5 (0,0))) (hnc:l.length<=cap) (hcm:cap<=maxLen) (hcs:cur.size=cap) (hcell:∀ j x,l[j]? = some x->w.cell? ((⟨g,0,none⟩:Addr).add j)=some (.int .u8 x.toNat)) :
 Calls Tryz.prog 60 #[.pointer (some ⟨b,0,none⟩)] w fun e w'=>e=.returned (.string ⟨l.toArray⟩)∧Looked (.slice (some ⟨g,0,none⟩) l.length cap) w w':=by
 have hl0:l.length ≠ 0:=by simpa using h0
 have c1:w.drew.cell? ⟨b,1,none⟩=some (.slice (some ⟨g,0,none⟩) l.length cap):=by
  have:w.drew.heap[b]? = some (.cells #[p,.slice (some ⟨g,0,none⟩) l.length cap] T (0,0)):=hbk
  rw [Lib.cell_of_heap this];rfl
 have hSD:(Builtin.unsafeSliceData_ #[61] 135 #[.slice (some ⟨g,0,none⟩) l.length cap]).run Tryz.prog w.drew=.ok (.pointer (some ⟨g,0,none⟩)) w.drew :=
  Lib.run_unsafeSliceData_row _ _ _ _ _ _ (by omega)
 have hUS:(Builtin.unsafeString_ #[135,3] 9 #[.pointer (some ⟨g,0,none⟩),.int .i64 l.length]).run Tryz.prog w.drew=.ok (.string ⟨l.toArray⟩) (w.drew.freeze ⟨g,0,none⟩ l.length):=by
  refine Lib.run_unsafeString_row w.drew 135 3 9 5 Tryz.underlying135 (by kernel_rfl) g cur.size (by have hg':w.drew.heap[g]? = some (.cells cur 5 (0,0)):=hg;simp [World.shape?,hg']) l h0 (by omega) (by unfold maxLen at hcm;omega) ?_
  intro j x hx
  exact hcell j x hx
 have hfin:=kjE g l.length l.length cap w
 clear hcell hg hnc hcm hcs
 go_enter Tryz.func60,Tryz.ntmps60
 go_wp2
 go_region
 all_goals (go_wp2;go_ret;exact ⟨rfl,hfin⟩)
end Go.Proofs.YtaphnbaiamnfpaaGreatDoor
