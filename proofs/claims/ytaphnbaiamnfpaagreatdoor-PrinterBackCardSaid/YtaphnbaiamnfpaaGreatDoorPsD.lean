/- A state of the small language and the machine's state that it stands for. -/
import Derived.Test.YtaphnbaiamnfpaaGreatDoorPsC
namespace Go.Proofs.YtaphnbaiamnfpaaGreatDoor.Ps
set_option linter.unusedVariables false
set_option linter.unusedSimpArgs false
open Go Go.RowKit
section
variable {α:Type}
theorem D.isInt_eq {k:IntKind} {x:D} (h:x.isInt k=true):x=.int k x.num:=by
 cases x<;>simp_all [D.isInt,D.num]
theorem D.isBool_eq {x:D} (h:x.isBool=true):x=.bool x.bit:=by
 cases x<;>simp_all [D.isBool,D.bit]
theorem D.isStr_eq {x:D} (h:x.isStr=true):x=.str x.bytes:=by
 cases x<;>simp_all [D.isStr,D.bytes]
theorem D.isList_eq {sz:Nat} {x:D} (h:x.isList sz=true):x=.list sz x.rows:=by
 cases x<;>simp_all [D.isList,D.rows]
theorem D.isL_eq {x:D} (h:x.isL=true):∃ sz,x=.list sz x.rows:=by
 cases x<;>simp_all [D.isL,D.rows]
theorem D.isNilI_eq {x:D} (h:x.isNilI=true):x=.nilI:=by
 cases x<;>simp_all [D.isNilI]
theorem D.isI_eq {x:D} (h:x.isI=true):x=.err∨∃ t row,x=.iface t row:=by
 cases x<;>simp_all [D.isI]
theorem kac {c:Bool} {x:Option α} {r:α} (h:cond c x none=some r):c=true∧x=some r:=by
 cases c
 · cases h
 · exact ⟨rfl,h⟩
theorem kaS {k:IntKind} {v:V} {K:Int->Option α} {r:α} (h:gInt k v K=some r):∃ n,v=dv (.int k n)∧K n=some r:=by
 unfold gInt at h
 split at h
 · obtain ⟨h1,h2⟩:=kac h
   exact ⟨_,by rw [D.isInt_eq h1];rfl,h2⟩
 · cases h
theorem kbg {v:V} {K:Bool->Option α} {r:α} (h:kev v K=some r):∃ n,v=dv (.bool n)∧K n=some r:=by
 unfold kev at h
 split at h
 · obtain ⟨h1,h2⟩:=kac h
   exact ⟨_,by rw [D.isBool_eq h1];rfl,h2⟩
 · cases h
theorem kbh {v:V} {K:ByteArray->Option α} {r:α} (h:gStr v K=some r):∃ n,v=dv (.str n)∧K n=some r:=by
 unfold gStr at h
 split at h
 · obtain ⟨h1,h2⟩:=kac h
   exact ⟨_,by rw [D.isStr_eq h1];rfl,h2⟩
 · cases h
theorem kcn {sz:Nat} {v:V} {K:List (List D)->Option α} {r:α} (h:kfo sz v K=some r) :
 ∃ rows,K rows=some r∧(v=dv (.list sz rows)∨(∃ κ e,v=.one (.own κ e sz rows))∨(∃ s,v=.one (.nilL s)∧rows=[])):=by
 unfold kfo at h
 split at h
 · obtain ⟨h1,h2⟩:=kac h
   exact ⟨_,h2,.inl (by rw [D.isList_eq h1];rfl)⟩
 · rename_i κ e s rows
   obtain ⟨h1,h2⟩:=kac h
   have:=Nat.eq_of_beq_eq_true h1
   subst this
   exact ⟨_,h2,.inr (.inl ⟨_,_,rfl⟩)⟩
 · exact ⟨_,h,.inr (.inr ⟨_,rfl,rfl⟩)⟩
 · cases h
theorem kb4 {v:V} {K:List X->Option α} {r:α} (h:keE v K=some r):∃ cs,K cs=some r∧((∃ x,v=.one x∧cs=[x])∨v=.agg cs):=by
 unfold keE at h
 split at h
 · exact ⟨_,h,.inl ⟨_,rfl,rfl⟩⟩
 · exact ⟨_,h,.inr rfl⟩
 · cases h
def X.toD:X->D
 | .d x=>x
 | .own _ _ sz rows=>.list sz rows
 | .nilL sz=>.list sz []
 | _=>.junk
theorem kq4 {x:X} {K:D->Option α} {r:α} (h:gD x K=some r):K x.toD=some r:=by
 unfold gD at h
 split at h<;>first | exact h | cases h
theorem kjr {cs:List X}:∀ {K:List D->Option α} {r:α},gDs cs K=some r->K (cs.map X.toD)=some r:=by
 induction cs with
 | nil=>intro K r h;exact h
 | cons x xs ih =>
  intro K r h
  unfold gDs at h
  have h1:=kq4 h
  have h2:=ih h1
  exact h2
theorem kcy {v:V} {Kp:Nat->Nat->Option α} {Kr:Nat->List D->Nat->Option α} {r:α} (h:gPtr v Kp Kr=some r) :
 (∃ b off,v=.one (.ptr b off)∧Kp b off=some r)∨(∃ sz row off,v=.one (.rptr sz row off)∧Kr sz row off=some r):=by
 unfold gPtr at h
 split at h
 · exact .inl ⟨_,_,rfl,h⟩
 · exact .inr ⟨_,_,_,rfl,h⟩
 · cases h
theorem kbD {b:Option Blk} {K:Blk->Option α} {r:α} (h:gBlk b K=some r):∃ x,b=some x∧K x=some r:=by
 cases b with
 | none=>cases h
 | some x=>exact ⟨x,rfl,h⟩
end
theorem RepX.toD {g:G} {x:X} {v:Value} (h:RepX g x v):RepD g.w g.φ x.toD v:=by
 cases h with
 | d x v h=>exact h
 | own κ e sz rows v h hk hu=>exact h
 | nilL sz=>exact .nil sz none 0
 | ptr=>exact .junk _ rfl
 | rptr=>exact .junk _ rfl
 | fn=>exact .junk _ rfl
 | slf0=>exact .junk _ rfl
 | slf1=>exact .junk _ rfl
theorem RepV.list {g:G} {sz:Nat} {v:V} {rows:List (List D)} {u:Value} (hv:v=dv (.list sz rows)∨(∃ κ e,v=.one (.own κ e sz rows))∨(∃ s,v=.one (.nilL s)∧rows=[])) (h:RepV g v u) :
 RepD g.w g.φ (.list sz rows) u:=by
 rcases hv with rfl | ⟨κ,e,rfl⟩ | ⟨s,rfl,rfl⟩
 · cases h with
   | one _ _ h=>exact h.toD
 · cases h with
   | one _ _ h=>exact h.toD
 · cases h with
   | one _ _ h =>
    cases h
    exact .nil sz none 0
theorem RepV.int_eq {g:G} {k:IntKind} {n:Int} {u:Value} (h:RepV g (dv (.int k n)) u):u=.int k n:=by
 cases h with | one _ _ h=>cases h with | d _ _ h=>cases h;rfl
theorem RepV.bool_eq {g:G} {n:Bool} {u:Value} (h:RepV g (dv (.bool n)) u):u=.bool n:=by
 cases h with | one _ _ h=>cases h with | d _ _ h=>cases h;rfl
theorem RepV.str_eq {g:G} {n:ByteArray} {u:Value} (h:RepV g (dv (.str n)) u):u=.string n:=by
 cases h with | one _ _ h=>cases h with | d _ _ h=>cases h;rfl
theorem RepV.ptr_eq {g:G} {b off:Nat} {u:Value} (h:RepV g (.one (.ptr b off)) u):∃ B,g.β b=some B∧u=.pointer (some ⟨B,off,none⟩):=by
 cases h with | one _ _ h=>cases h with | ptr _ B _ h=>exact ⟨B,h,rfl⟩
theorem RepV.of_d {g:G} {d:D} {v:Value} (h:RepD g.w g.φ d v):RepV g (dv d) v:=.one _ _ (.d _ _ h)
def kaR (g:G) (cs:List X) (vs:List Value):Prop:=vs.length=cs.length∧∀ j,j < cs.length->RepX g (cs.getD j (.d .junk)) (vs.getD j undef)
theorem kaR.mono {g g':G} (k:Keeps g g') {cs:List X} {vs:List Value} (h:kaR g cs vs):kaR g' cs vs:=⟨h.1,fun j hj=>(h.2 j hj).mono k⟩
theorem kaR.nil (g:G):kaR g [] []:=⟨rfl,fun j hj=>absurd hj (by simp)⟩
theorem kaR.cons {g:G} {x:X} {v:Value} {cs:List X} {vs:List Value} (h:RepX g x v) (hs:kaR g cs vs):kaR g (x :: cs) (v :: vs):=by
 refine ⟨by simp [hs.1],fun j hj=>?_⟩
 cases j with
 | zero=>exact h
 | succ j=>exact hs.2 j (by simpa using hj)
theorem kaR.head {g:G} {x:X} {v:Value} {cs:List X} {vs:List Value} (h:kaR g (x :: cs) (v :: vs)):RepX g x v∧kaR g cs vs :=
 ⟨h.2 0 (by simp),by simpa using h.1,fun j hj=>h.2 (j+1) (by simpa using hj)⟩
theorem kaR.append {g:G} {cs ds:List X} {vs us:List Value} (h:kaR g cs vs) (h':kaR g ds us):kaR g (cs++ds) (vs++us):=by
 induction cs generalizing vs with
 | nil =>
  have:vs=[]:=List.eq_nil_of_length_eq_zero h.1
  subst this
  exact h'
 | cons x xs ih =>
  cases vs with
  | nil=>exact absurd h.1 (by simp)
  | cons v vs=>exact .cons h.head.1 (ih h.head.2)
theorem kaR.take {g:G} {cs:List X} {vs:List Value} (h:kaR g cs vs) (n:Nat):kaR g (cs.take n) (vs.take n):=by
 induction n generalizing cs vs with
 | zero=>simp only [List.take_zero];exact .nil g
 | succ n ih =>
  cases cs with
  | nil =>
   have:vs=[]:=List.eq_nil_of_length_eq_zero h.1
   subst this
   simp only [List.take_nil];exact .nil g
  | cons x xs =>
   cases vs with
   | nil=>exact absurd h.1 (by simp)
   | cons v vs =>
    simp only [List.take_succ_cons]
    exact .cons h.head.1 (ih h.head.2)
theorem kaR.drop {g:G} {cs:List X} {vs:List Value} (h:kaR g cs vs) (n:Nat):kaR g (cs.drop n) (vs.drop n):=by
 induction n generalizing cs vs with
 | zero=>simpa using h
 | succ n ih =>
  cases cs with
  | nil =>
   have:vs=[]:=List.eq_nil_of_length_eq_zero h.1
   subst this
   simp only [List.drop_nil];exact .nil g
  | cons x xs =>
   cases vs with
   | nil=>exact absurd h.1 (by simp)
   | cons v vs =>
    simp only [List.drop_succ_cons]
    exact ih h.head.2
theorem kaR.one {g:G} {cs:List X} {vs:List Value} (h:kaR g cs vs):∀ v∈vs,v.oneCell'=true:=by
 intro v hv
 obtain ⟨j,hj,rfl⟩:=List.getElem_of_mem hv
 have:=(h.2 j (by rw [<- h.1];exact hj)).one
 rw [List.getD_eq_getElem?_getD,List.getElem?_eq_getElem hj] at this
 exact this
theorem kaR.put {g:G} {row cs:List X} {vs us:List Value} (h:kaR g row vs) (h':kaR g cs us) (off:Nat):kaR g (kee row off cs) (vs.take off++us++vs.drop (off+us.length)):=by
 unfold kee
 rw [h'.1]
 exact ((h.take off).append h').append (h.drop _)
theorem V.cells_rep {g:G} {v:V} {cs:List X} {u:Value} (hv:(∃ x,v=.one x∧cs=[x])∨v=.agg cs) (h:RepV g v u):kaR g cs u.cells.toList:=by
 rcases hv with ⟨x,rfl,rfl⟩ | rfl
 · cases h with
   | one _ _ h =>
    have h1:=h.one
    have e:u.cells=#[u]:=by cases u<;>first | rfl | (simp [Value.oneCell'] at h1)
    rw [e]
    exact .cons h (.nil g)
 · cases h with
   | agg _ vs hl h=>exact ⟨by simpa [Value.cells] using hl,by simpa [Value.cells] using h⟩
structure RepB (g:G) (i:Nat) (x:Blk) (B:Nat):Prop where
 at_:g.β i=some B
 cells:∃ cs T,g.w.heap[B]? = some (.cells cs T (0,0))∧kaR g x.row cs.toList
 low:g.φ B=0
structure Owned (g:G) (e s:Nat) (u:Value):Prop where
 row:∃ n xs,g.w.ownsRow 0 e s u n xs∧∀ b,u.ownBlock=some b->g.φ b=n*s
 no:∀ b,u.ownBlock=some b->∀ i,g.β i ≠ some b
structure Rep (N:Nat) (g:G) (vw:View) (a:Act):Prop where
 size:a.tmps.size=N
 env:∀ t,RepV g (vw.env t) (a.tmps.getD t undef)
 heap:∀ i x,vw.heap i=some x->∃ B,RepB g i x B
 inj:∀ i j B,g.β i=some B->g.β j=some B->i=j
 lt:∀ i B,g.β i=some B->B < g.w.heap.size
 live:∀ κ,vw.live κ=true->∃ e s u,g.gk κ=some (e,s,u)
 own:∀ κ e s u,g.gk κ=some (e,s,u)->Owned g e s u
 dist:∀ κ κ' e s u e' s' u' b,g.gk κ=some (e,s,u)->g.gk κ'=some (e',s',u')->u.ownBlock=some b->u'.ownBlock=some b->κ=κ'
 used:∀ κ e s u,g.gk κ=some (e,s,u)->g.us κ
 fresh:∀ b,g.w.heap.size<=b->g.φ b=0
theorem Owned.lt {g:G} {e s:Nat} {u:Value} (h:Owned g e s u) {b:Nat} (hb:u.ownBlock=some b):b < g.w.heap.size:=by
 obtain ⟨n,xs,ho,_⟩:=h.row
 exact (ho.lt b hb).2
structure RepP (g g':G) (p:Patch) (v:Value):Prop where
 step:Step g g'
 keeps:Keeps g g'
 val:RepV g' p.x v
 fresh:∀ b,g'.w.heap.size<=b->g'.φ b=0
 hw:∀ i x,kaI i p.hw=some x->∃ B,RepB g' i x B
 oth:∀ i B,g.β i=some B->kaI i p.hw=none->g'.w.heap[B]? = g.w.heap[B]?∧g'.φ B=g.φ B
 new:∀ i B,g'.β i=some B->g.β i=some B∨(g.β i=none∧g.w.heap.size<=B∧B < g'.w.heap.size∧(kaI i p.hw).isSome=true∧∀ j,g'.β j=some B->j=i)
 born:∀ κ,hasN κ p.born=true->∃ e s u,g'.gk κ=some (e,s,u)
 use:∀ κ,g'.us κ->g.us κ∨hasN κ p.born=true
 alive:∀ κ t,g.gk κ=some t->hasN κ p.kill=false->g'.gk κ=some t
 keys:∀ κ e s u,g'.gk κ=some (e,s,u) ->
  (hasN κ p.born=false∧hasN κ p.kill=false∧g.gk κ=some (e,s,u)∧(∀ b,u.ownBlock=some b->g'.w.heap[b]? = g.w.heap[b]?∧g'.φ b=g.φ b)) ∨
  (hasN κ p.born=true∧Owned g' e s u∧g'.us κ∧(∀ b,u.ownBlock=some b->(g.w.heap.size<=b∨∃ κ0 e0 s0 u0,hasN κ0 p.kill=true∧g.gk κ0=some (e0,s0,u0)∧u0.ownBlock=some b)) ∧
   (∀ κ' e' s' u' b,g'.gk κ'=some (e',s',u')->u.ownBlock=some b->u'.ownBlock=some b->κ'=κ))
def View.patch (vw:View) (dst:Option Nat) (p:Patch):View :=
 ⟨fun t=>match dst with | some d=>cond (Nat.beq d t) p.x (vw.env t) | none=>vw.env t,
  fun i=>match kaI i p.hw with | some x=>some x | none=>vw.heap i,
  fun κ=>cond (hasN κ p.born) true (cond (hasN κ p.kill) false (vw.live κ))⟩
theorem kdQ (b:Nat) (h h':List (Nat × Blk)):kaI b (h++h')=match kaI b h with | some x=>some x | none=>kaI b h':=by
 induction h with
 | nil=>rfl
 | cons x xs ih =>
  simp only [List.cons_append,kaI]
  cases Nat.beq x.1 b
  · exact ih
  · rfl
theorem kaZ (κ:Nat) (l:List Nat):hasN κ l=true ↔ κ∈l:=by
 induction l with
 | nil=>simp [hasN]
 | cons x xs ih =>
  simp only [hasN,List.mem_cons]
  cases h:Nat.beq x κ
  · have:x ≠ κ:=fun e=>by subst e;simp at h
    simp [ih,Ne.symm this]
  · have:x=κ:=Nat.eq_of_beq_eq_true h
    simp [this]
theorem klN (κ:Nat) (l l':List Nat):hasN κ (l++l')=cond (hasN κ l) true (hasN κ l'):=by
 induction l with
 | nil=>rfl
 | cons x xs ih =>
  simp only [List.cons_append,hasN]
  cases Nat.beq x κ
  · exact ih
  · rfl
theorem klO (κ:Nat) (l k:List Nat):hasN κ (l.filter fun κ=>!hasN κ k)=cond (hasN κ k) false (hasN κ l):=by
 rw [Bool.eq_iff_iff,kaZ,List.mem_filter]
 cases h:hasN κ k<;>simp [kaZ]
theorem St.apply_view (s:St) (dst:Option Nat) (p:Patch):(s.apply dst p).view=s.view.patch dst p:=by
 unfold St.apply St.view View.patch
 congr 1
 · funext t
   cases dst<;>rfl
 · funext b
   exact kdQ b p.hw s.heap
 · funext κ
   simp only [klN,klO]
theorem RepB.mono {g g':G} {i B:Nat} {x:Blk} (h:RepB g i x B) (k:Keeps g g') (hs:g'.w.heap[B]? = g.w.heap[B]?∧g'.φ B=g.φ B):RepB g' i x B:=by
 obtain ⟨cs,T,hc,hr⟩:=h.cells
 exact ⟨k.β i B h.at_,⟨cs,T,by rw [hs.1];exact hc,hr.mono k⟩,by rw [hs.2];exact h.low⟩
theorem kcT {w w':World} {base e s n:Nat} {u:Value} {xs:List Value} (h:w.ownsRow base e s u n xs) (hs:∀ b,u.ownBlock=some b->w'.heap[b]? = w.heap[b]?):w'.ownsRow base e s u n xs:=by
 refine ⟨h.1,?_⟩
 rcases h.2 with hn | ⟨g,cap,cur,rfl,hb,hg,rest⟩
 · exact .inl hn
 · exact .inr ⟨g,cap,cur,rfl,hb,by rw [hs g rfl];exact hg,rest⟩
theorem Rep.apply {N:Nat} {g g':G} {vw:View} {a:Act} {p:Patch} {v:Value} {dst:Option Nat} (h:Rep N g vw a) (hp:RepP g g' p v) (hd:∀ d,dst=some d->d < N) :
 Rep N g' (vw.patch dst p) (a.put dst v) where
 size:=by cases dst<;>simp [Act.put,h.size]
 env:=fun t=>by
  cases dst with
  | none=>exact (h.env t).mono hp.keeps
  | some d =>
   simp only [View.patch,Act.put]
   cases hq:Nat.beq d t
   · have hne:d ≠ t:=fun e=>by subst e;simp at hq
     have:(a.tmps.setIfInBounds d v).getD t undef=a.tmps.getD t undef:=by
      simp only [Array.getD_eq_getD_getElem?,Array.getElem?_setIfInBounds_ne hne]
     rw [this]
     exact (h.env t).mono hp.keeps
   · have e:d=t:=Nat.eq_of_beq_eq_true hq
     subst e
     have:(a.tmps.setIfInBounds d v).getD d undef=v:=by
      rw [Array.getD_eq_getD_getElem?]
      rw [Array.getElem?_setIfInBounds_self_of_lt (by rw [h.size];exact hd d rfl)]
      rfl
     rw [this]
     exact hp.val
 heap:=fun i x hx=>by
  simp only [View.patch] at hx
  cases hl:kaI i p.hw with
  | some y =>
   rw [hl] at hx
   exact hp.hw i x (by rw [hl];exact hx)
  | none =>
   rw [hl] at hx
   obtain ⟨B,hB⟩:=h.heap i x hx
   exact ⟨B,hB.mono hp.keeps (hp.oth i B hB.at_ hl)⟩
 inj:=fun i j B hi hj=>by
  rcases hp.new i B hi with h1 | ⟨_,_,_,_,h1⟩
  · rcases hp.new j B hj with h2 | ⟨h2,h3,_⟩
    · exact h.inj i j B h1 h2
    · have:=h.lt i B h1
      omega
  · exact (h1 j hj).symm
 lt:=fun i B hi=>by
  rcases hp.new i B hi with h1 | ⟨_,_,h1,_⟩
  · exact Nat.lt_of_lt_of_le (h.lt i B h1) hp.step.size
  · exact h1
 live:=fun κ hκ=>by
  simp only [View.patch] at hκ
  cases hb:hasN κ p.born
  · rw [hb] at hκ
    cases hk:hasN κ p.kill
    · rw [hk] at hκ
      obtain ⟨e,s,u,hu⟩:=h.live κ hκ
      exact ⟨e,s,u,hp.alive κ _ hu hk⟩
    · rw [hk] at hκ
      cases hκ
  · exact hp.born κ hb
 own:=fun κ e s u hu=>by
  rcases hp.keys κ e s u hu with ⟨_,hk,h1,h2⟩ | ⟨_,h1,_⟩
  · have ho:=h.own κ e s u h1
    refine ⟨?_,?_⟩
    · obtain ⟨n,xs,hr,hφ⟩:=ho.row
      exact ⟨n,xs,kcT hr (fun b hb=>(h2 b hb).1),fun b hb=>by rw [(h2 b hb).2];exact hφ b hb⟩
    · intro b hb i hi
      rcases hp.new i b hi with h3 | ⟨_,h3,_⟩
      · exact ho.no b hb i h3
      · have:=ho.lt hb
        omega
  · exact h1
 dist:=fun κ κ' e s u e' s' u' b hu hu' hb hb'=>by
  rcases hp.keys κ e s u hu with ⟨_,_,h1,_⟩ | ⟨_,_,_,_,h1⟩
  · rcases hp.keys κ' e' s' u' hu' with ⟨_,_,h2,_⟩ | ⟨_,_,_,_,h2⟩
    · exact h.dist κ κ' e s u e' s' u' b h1 h2 hb hb'
    · exact h2 κ e s u b hu hb' hb
  · exact (h1 κ' e' s' u' b hu' hb hb').symm
 used:=fun κ e s u hu=>by
  rcases hp.keys κ e s u hu with ⟨_,_,h1,_⟩ | ⟨_,_,h1,_⟩
  · exact hp.keeps.us κ (h.used κ e s u h1)
  · exact h1
 fresh:=hp.fresh
end Go.Proofs.YtaphnbaiamnfpaaGreatDoor.Ps
