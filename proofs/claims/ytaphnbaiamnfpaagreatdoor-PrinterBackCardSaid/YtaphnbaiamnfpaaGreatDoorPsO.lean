/- Every operation that is put into the small language does what it says there. -/
import Derived.Test.YtaphnbaiamnfpaaGreatDoorPsN
namespace Go.Proofs.YtaphnbaiamnfpaaGreatDoor.Ps
set_option linter.unusedVariables false
set_option linter.unusedSimpArgs false
open Go Go.RowKit
section
variable {P:Program} {o:Oper} {a:Act} {N:Nat} {g:G} {vw:View} {Γ:SemL} {shp:FuncId->Sh}
theorem kam {p:Patch} {r:Res} (h:(some (.inl p):Option Res)=some r):r=.inl p:=by cases h;rfl
theorem kb5 (h:Rep N g vw a) {k:IntKind} {x:Operand} {t:TypeId} {y:SArg} (hy:arg P t x=some y) {K:Int->Option Res} {r:Res} (hr:gInt k (ev vw.env y) K=some r):∃ n,a.eval x=.int k n∧K n=some r:=by
 obtain ⟨n,e,hk⟩:=kaS hr
 have:=kaT h hy
 rw [e] at this
 exact ⟨n,this.int_eq,hk⟩
theorem kjw (h:Rep N g vw a) {x:Operand} {t:TypeId} {y:SArg} (hy:arg P t x=some y) {K:Bool->Option Res} {r:Res} (hr:kev (ev vw.env y) K=some r):∃ n,a.eval x=.bool n∧K n=some r:=by
 obtain ⟨n,e,hk⟩:=kbg hr
 have:=kaT h hy
 rw [e] at this
 exact ⟨n,this.bool_eq,hk⟩
theorem khM (h:Rep N g vw a) {x:Operand} {t:TypeId} {y:SArg} (hy:arg P t x=some y) {K:ByteArray->Option Res} {r:Res} (hr:gStr (ev vw.env y) K=some r):∃ n,a.eval x=.string n∧K n=some r:=by
 obtain ⟨n,e,hk⟩:=kbh hr
 have:=kaT h hy
 rw [e] at this
 exact ⟨n,this.str_eq,hk⟩
theorem kgN (h:Rep N g vw a) {sz:Nat} {x:Operand} {t:TypeId} {y:SArg} (hy:arg P t x=some y) {K:List (List D)->Option Res} {r:Res} (hr:kfo sz (ev vw.env y) K=some r):∃ n,RepD g.w g.φ (.list sz n) (a.eval x)∧K n=some r:=by
 obtain ⟨n,hk,e⟩:=kcn hr
 exact ⟨n,RepV.list e (kaT h hy),hk⟩
theorem khN (h:Rep N g vw a) {x:Operand} {t:TypeId} {y:SArg} (hy:arg P t x=some y) {K:List X->Option Res} {r:Res} (hr:keE (ev vw.env y) K=some r):∃ n,kaR g n (a.eval x).cells.toList∧K n=some r:=by
 obtain ⟨n,hk,e⟩:=kb4 hr
 exact ⟨n,V.cells_rep e (kaT h hy),hk⟩
theorem khO (h:Rep N g vw a) {x:Operand} {t:TypeId} {y:SArg} (hy:arg P t x=some y) {Kp:Nat->Nat->Option Res} {Kr:Nat->List D->Nat->Option Res} {r:Res} (hr:gPtr (ev vw.env y) Kp Kr=some r) :
 (∃ b off,RepV g (.one (.ptr b off)) (a.eval x)∧Kp b off=some r)∨(∃ sz row off,RepV g (.one (.rptr sz row off)) (a.eval x)∧Kr sz row off=some r):=by
 have:=kaT h hy
 rcases kcy hr with ⟨b,off,e,hk⟩ | ⟨sz,row,off,e,hk⟩
 · rw [e] at this;exact .inl ⟨b,off,this,hk⟩
 · rw [e] at this;exact .inr ⟨sz,row,off,this,hk⟩
theorem kjx (h:Rep N g vw a) {d:Int} {lo:Option Operand} {y:Option SArg} (hy:optA P 0 lo=some y) {K:Int->Option Res} {r:Res} (hr:optK vw.env d y K=some r) :
 ∃ n,((lo=none∧n=d)∨∃ x,lo=some x∧a.eval x=.int .i64 n)∧K n=some r:=by
 unfold optA at hy
 split at hy
 · cases hy;exact ⟨d,.inl ⟨rfl,rfl⟩,hr⟩
 · rename_i x
   split at hy
   · rename_i z hz
     cases hy
     obtain ⟨n,hn,hk⟩:=kb5 h hz hr
     exact ⟨n,.inr ⟨x,rfl,hn⟩,hk⟩
   · cases hy
theorem knz (h:Rep N g vw a):∀ {xs:List Operand} {ts:List TypeId} {ys:List SArg},args P ts xs=some ys->∀ {K:List X->Option Res} {r:Res},khy vw.env ys K=some r->∃ cs,kaR g cs (xs.map a.eval)∧K cs=some r
 | [],ts,ys,hx,K,r,hk=>by cases hx;exact ⟨[],.nil g,hk⟩
 | x :: xs,ts,ys,hx,K,r,hk=>by
  unfold args at hx
  split at hx
  · rename_i y zs h1 h2
    cases hx
    unfold khy at hk
    have hrep:=kaT h h1
    split at hk
    · rename_i z hz
      rw [hz] at hrep
      obtain ⟨cs,h3,h4⟩:=knz h h2 hk
      cases hrep with
      | one _ _ hrep=>exact ⟨z :: cs,.cons hrep h3,h4⟩
    · cases hk
  · cases hx
def G.allocB (g:G) (nb nk:Nat) (T e:TypeId):G :=
 { g with w:=g.w.alloc (.cells #[.pointer none,.slice none 0 0] T),β:=(fun i=>if i=nb then some g.w.heap.size else g.β i),gk:=(fun κ=>if κ=nk then some (e,1,.slice none 0 0) else g.gk κ),us:=fun κ=>κ=nk∨g.us κ }
theorem RepP.allocB (h:Rep N g vw a) {nb nk:Nat} (hn:g.β nb=none) (hnk:¬ g.us nk) (T e:TypeId) (hT:T=kpk) :
 RepP g (g.allocB nb nk T e) ⟨.one (.ptr nb 0),[(nb,⟨[.slf,.own e 1],[.slf nb,.own nk e 1 []]⟩)],[],[nk]⟩ (.pointer (some ⟨g.w.heap.size,0,none⟩)):=by
 have hβ:∀ i B,g.β i=some B->(g.allocB nb nk T e).β i=some B:=fun i B hi=>by
  have:i ≠ nb:=fun e=>by subst e;rw [hn] at hi;cases hi
  show (if i=nb then _ else _)=_
  rw [if_neg this]
  exact hi
 have hgk:∀ κ t,(g.allocB nb nk T e).gk κ=some t->(κ=nk∧t=(e,1,.slice none 0 0))∨(κ ≠ nk∧g.gk κ=some t):=fun κ t ht=>by
  have ht':(if κ=nk then some (e,1,.slice none 0 0) else g.gk κ)=some t:=ht
  by_cases hq:κ=nk
  · rw [if_pos hq] at ht'
    cases ht'
    exact .inl ⟨hq,rfl⟩
  · rw [if_neg hq] at ht'
    exact .inr ⟨hq,ht'⟩
 have hk:Keeps g (g.allocB nb nk T e):=⟨khA _ h.fresh (fun _=>Nat.le_refl _),hβ,(fun κ hκ t ht=>by
  rcases hgk κ t ht with ⟨rfl,_⟩ | ⟨_,h1⟩
  · exact absurd hκ hnk
  · exact h1),fun _ e=>.inr e,fun i B T' hi ⟨c,f,hc⟩=>⟨c,f,(Go.heap_alloc_old _ _ (h.lt i B hi)).trans hc⟩⟩
 have hβn:(g.allocB nb nk T e).β nb=some g.w.heap.size:=if_pos rfl
 have hsz:(g.allocB nb nk T e).w.heap.size=g.w.heap.size+1:=kco _ _
 exact {
  step:=⟨rfl,rfl,rfl,by rw [hsz];omega,hk.ext,fun b hb _=>⟨Go.heap_alloc_old _ _ hb,rfl⟩,fun b hb=>by
   rcases hb with ⟨i,hi⟩ | ⟨κ,e',s,u,hu,hb⟩
   · by_cases e:i=nb
     · subst e
       rw [hβn] at hi
       cases hi
       exact .inr (Nat.le_refl _)
     · exact .inl (.inl ⟨i,by rw [<- hi];exact (if_neg e).symm⟩)
   · rcases hgk κ _ hu with ⟨_,h1⟩ | ⟨_,h1⟩
     · cases h1;cases hb
     · exact .inl (.inr ⟨κ,e',s,u,h1,hb⟩)⟩
  keeps:=hk
  val:=.one _ _ (.ptr nb g.w.heap.size 0 hβn)
  fresh:=fun b hb=>h.fresh b (by rw [hsz] at hb;omega)
  hw:=fun i x hx=>by
   simp only [kaI] at hx
   cases hq:Nat.beq nb i
   · rw [hq] at hx;cases hx
   · rw [hq] at hx
     have e:=Nat.eq_of_beq_eq_true hq
     subst e
     cases hx
     exact ⟨_,hβn,⟨_,T,heap_alloc_new _ _,.cons (.slf0 _ _ hβn ⟨_,_,by subst hT;exact heap_alloc_new _ _⟩) (.cons (.own _ _ _ _ _ (.nil 1 none 0) (fun e' s' u hu=>by
      rcases hgk _ _ hu with ⟨_,h1⟩ | ⟨h1,_⟩
      · cases h1;exact ⟨rfl,rfl,rfl⟩
      · exact absurd rfl h1) (.inl rfl)) (.nil _))⟩,h.fresh _ (Nat.le_refl _)⟩
  oth:=fun i B hi _=>⟨Go.heap_alloc_old _ _ (h.lt i B hi),rfl⟩
  new:=fun i B hi=>by
   by_cases e:i=nb
   · subst e
     rw [hβn] at hi
     cases hi
     refine .inr ⟨hn,Nat.le_refl _,by rw [hsz];omega,by simp [kaI],fun j hj=>?_⟩
     by_cases e:j=i
     · exact e
     · have:g.β j=some g.w.heap.size:=by rw [<- hj];exact (if_neg e).symm
       have:=h.lt j _ this
       omega
   · exact .inl (by rw [<- hi];exact (if_neg e).symm)
  born:=fun κ hκ=>by
   have:=(kaZ κ [nk]).1 hκ
   rw [List.mem_singleton] at this
   exact ⟨e,1,.slice none 0 0,if_pos this⟩
  use:=fun κ hκ=>by
   rcases hκ with rfl | hκ
   · exact .inr (by simp [hasN])
   · exact .inl hκ
  alive:=fun κ t ht _=>by
   obtain ⟨e',s,u⟩:=t
   have hne:κ ≠ nk:=fun q=>hnk (q▸h.used κ e' s u ht)
   show (if κ=nk then _ else _)=_
   rw [if_neg hne]
   exact ht
  keys:=fun κ e' s u hu=>by
   rcases hgk κ _ hu with ⟨rfl,h1⟩ | ⟨hne,h1⟩
   · cases h1
     exact .inr ⟨by simp [hasN],⟨⟨0,[],World.ownsRow_nil _ _ _ _,fun b hb=>by cases hb⟩,fun b hb=>by cases hb⟩,.inl rfl,(fun b hb=>by cases hb),fun κ' e' s' u' b _ hb=>by cases hb⟩
   · refine .inl ⟨?_,rfl,h1,fun b hb=>⟨Go.heap_alloc_old _ _ ((h.own κ e' s u h1).lt hb),rfl⟩⟩
     cases hq:hasN κ [nk]
     · rfl
     · have:=(kaZ κ [nk]).1 hq
       rw [List.mem_singleton] at this
       exact absurd this hne }
theorem krm (h:Rep N g vw a) {nb nk:Nat} (hn:g.β nb=none) (hnk:¬ g.us nk) {e:TypeId} (ho:o.op=.alloc e) (u:TypeId) (hz:(bldZ P e&&Nat.beq e kpk)=true) :
 OpOk P o a g (.inl ⟨.one (.ptr nb 0),[(nb,⟨[.slf,.own u 1],[.slf nb,.own nk u 1 []]⟩)],[],[nk]⟩):=by
 rw [Bool.and_eq_true] at hz
 obtain ⟨hz,hT⟩:=hz
 have hT:=Nat.eq_of_beq_eq_true hT
 unfold bldZ at hz
 split at hz
 · rename_i i hi
   split at hz
   · rename_i z hzz
     split at hz
     · rename_i hc
       intro K Q hK
       refine kdl (v:=.pointer (some ⟨g.w.heap.size,0,none⟩)) ?_ (hK _ _ (RepP.allocB h hn hnk e u hT))
       have e1:z.cells=#[.pointer none,.slice none 0 0]:=by rw [<- Array.toList_inj];exact hc
       simp only [execOp,ho]
       rw [Sem.run_bind,kkC g.w e i z hi hzz,e1]
       rfl
     · cases hz
   · cases hz
 · cases hz
theorem kAK (h:Rep N g vw a) {nb nk:Nat} (hn:g.β nb=none) (hnk:¬ g.us nk) {e:TypeId} {x:Operand} (ho:o.op=.box e x) (u:TypeId) (hT:e=kpk) (hx:kaR g [.d .nilP,.nilL 1] (a.eval x).cells.toList) :
 OpOk P o a g (.inl ⟨.one (.ptr nb 0),[(nb,⟨[.slf,.own u 1],[.slf nb,.own nk u 1 []]⟩)],[],[nk]⟩):=by
 have e1:(a.eval x).cells=#[.pointer none,.slice none 0 0]:=by
  rw [<- Array.toList_inj]
  generalize (a.eval x).cells.toList=l at hx
  match l,hx.1 with
  | [p,q],_ =>
   have h1:=hx.head.1
   have h2:=hx.head.2.head.1
   have e1:p=.pointer none:=by cases h1 with | d _ _ h=>cases h;rfl
   have e2:q=.slice none 0 0:=by cases h2;rfl
   rw [e1,e2]
 intro K Q hK
 refine kdl (v:=.pointer (some ⟨g.w.heap.size,0,none⟩)) ?_ (hK _ _ (RepP.allocB h hn hnk e u hT))
 simp only [execOp,ho]
 simp only [Instr.box,newVar,newRow,newObj,Sem.run_bind,Sem.run,Result.andThen_ok,Bind.bind,Sem.bind,Pure.pure,e1]
 rfl
theorem kAL {w0:World} (hΓ:keY P w0 Γ) (hs:Since w0 g) {so:SOp} (hc:comp P o=some so) (h:Rep N g vw a) {nb nk:Nat} (hnb:g.β nb=none) (hnk:∀ κ,nk<=κ->κ < nk+16->¬ g.us κ) {r:Res} (hr:aop1 Γ shp so nb nk vw=some r):OpOk P o a g r:=by
 have hnk0:¬ g.us nk:=hnk nk (Nat.le_refl _) (by omega)
 unfold comp at hc
 unfold aop1 at hr
 split at hc
 · rename_i x ho
   obtain ⟨y,hy,rfl⟩:=map_some hc
   cases kam hr
   exact kyd h (.inl ho) hy
 · rename_i x ho
   obtain ⟨y,hy,rfl⟩:=map_some hc
   cases kam hr
   exact kyd h (.inr ho) hy
 · rename_i c x z ho
   split at hc
   · rename_i c' x' z' h1 h2 h3
     cases hc
     simp only [aopK] at hr
     obtain ⟨b,e,hr⟩:=kbg hr
     have:=kAy h ho h1 h2 h3 b e
     cases b
     · cases kam hr;exact this
     · cases kam hr;exact this
   · cases hc
 · rename_i e ho
   split at hc
   · rename_i u hu
     obtain ⟨hz,hc⟩:=kac hc
     cases hc
     cases kam hr
     exact krm h hnb hnk0 ho u hz
   · obtain ⟨y,hy,rfl⟩:=map_some hc
     cases kam hr
     exact kur h hnb ho _ hy
 · rename_i e x ho
   split at hc
   · rename_i u hu
     obtain ⟨hT,hc⟩:=kac hc
     have hT:=Nat.eq_of_beq_eq_true hT
     obtain ⟨y,hy,rfl⟩:=map_some hc
     simp only [aopK] at hr
     obtain ⟨cs,hcs,hr⟩:=khN h hy hr
     split at hr
     · cases kam hr
       exact kAK h hnb hnk0 ho u hT hcs
     · cases hr
   · obtain ⟨y,hy,rfl⟩:=map_some hc
     simp only [aopK] at hr
     obtain ⟨cs,hcs,hr⟩:=khN h hy hr
     cases kam hr
     exact kDG h hnb ho _ hcs
 · rename_i t parts ho
   split at hc
   · rename_i fs hfs
     split at hc
     · rename_i places hp
       obtain ⟨zr,sp,hz,hs,rfl⟩:=kbm hc
       simp only [aopK] at hr
       have e:=kdp (fun cs=>some (.inl ⟨.agg cs,[],[],[]⟩:Res)) vw.env sp zr some
       have hr':kdB vw.env sp zr (fun cs=>some (.inl ⟨.agg cs,[],[],[]⟩:Res))=some r:=hr
       rw [show (fun cs=>some (.inl ⟨.agg cs,[],[],[]⟩:Res))=(fun x=>(some x).bind fun cs=>some (.inl ⟨.agg cs,[],[],[]⟩:Res)) from rfl,<- e,Option.bind_eq_some_iff] at hr'
       obtain ⟨cs,h1,h2⟩:=hr'
       cases kam h2
       exact kuv h ho hfs hz hp hs h1
     · cases hc
   · cases hc
 · rename_i t len parts ho
   split at hc
   · rename_i e ht
     split at hc
     · rename_i ti hti
       obtain ⟨h1,hc⟩:=kac hc
       obtain ⟨sp,hs,rfl⟩:=map_some hc
       simp only [Bool.and_eq_true] at h1
       obtain ⟨⟨⟨h1,h2⟩,h3⟩,h4⟩:=h1
       obtain ⟨z,hz⟩:=Option.isSome_iff_exists.1 h3
       simp only [aopK] at hr
       have e1:=kfx (fun rows=>some (.inl ⟨.one (.own nk e ti.size rows),[],[],[nk]⟩:Res)) vw.env ti.size sp some
       have hr':litK vw.env ti.size sp (fun rows=>some (.inl ⟨.one (.own nk e ti.size rows),[],[],[nk]⟩:Res))=some r:=hr
       rw [show (fun rows=>some (.inl ⟨.one (.own nk e ti.size rows),[],[],[nk]⟩:Res))=(fun x=>(some x).bind fun rows=>some (.inl ⟨.one (.own nk e ti.size rows),[],[],[nk]⟩:Res)) from rfl,<- e1,Option.bind_eq_some_iff] at hr'
       obtain ⟨rows,h5,h6⟩:=hr'
       cases kam h6
       have h2':=Nat.le_of_ble_eq_true h2
       exact kDH h ho ht hti hz (Nat.le_of_ble_eq_true h1) (by unfold maxLen;omega) hs (Nat.eq_of_beq_eq_true h4) hnk0 h5
     · cases hc
   · cases hc
 · rename_i t x ho
   split at hc
   · rename_i d ti hd hti
     obtain ⟨y,hy,rfl⟩:=map_some hc
     cases hag:isAg d with
     | true =>
      rw [hag] at hr
      simp only [aopK] at hr
      rcases khO h hy hr with ⟨b,off,hx,hr⟩ | ⟨sz,row,off,hx,hr⟩
      · obtain ⟨blk,hb,hr⟩:=kbD hr
        obtain ⟨h1,hr⟩:=kac hr
        cases kam hr
        exact kq9 h ho hti hd hag hx hb (Nat.le_of_ble_eq_true h1)
      · obtain ⟨h1,hr⟩:=kac hr
        cases kam hr
        exact kra h ho hti hd hag hx (Nat.le_of_ble_eq_true h1)
     | false =>
      rw [hag] at hr
      simp only [aopK] at hr
      rcases khO h hy hr with ⟨b,off,hx,hr⟩ | ⟨sz,row,off,hx,hr⟩
      · obtain ⟨blk,hb,hr⟩:=kbD hr
        obtain ⟨h1,hr⟩:=kac hr
        cases kam hr
        exact kpp h ho hd hag hx hb (Nat.le_of_ble_eq_true h1)
      · obtain ⟨h1,hr⟩:=kac hr
        cases kam hr
        exact kpq h ho hd hag hx (Nat.le_of_ble_eq_true h1)
   · cases hc
 · rename_i t x y ho
   split at hc
   · rename_i ti hti
     obtain ⟨x',y',hx,hy,rfl⟩:=kbm hc
     simp only [aopK] at hr
     rcases khO h hx hr with ⟨b,off,hx,hr⟩ | ⟨sz,row,off,hx,hr⟩
     · obtain ⟨blk,hb,hr⟩:=kbD hr
       obtain ⟨cs,hcs,hr⟩:=khN h hy hr
       obtain ⟨h1,hr⟩:=kac hr
       simp only [Bool.and_eq_true] at h1
       cases kam hr
       exact kus h ho hti hx hb hcs (Nat.eq_of_beq_eq_true h1.1) (Nat.le_of_ble_eq_true h1.2)
     · cases hr
   · cases hc
 · rename_i s x i ho
   split at hc
   · rename_i fs hs
     split at hc
     · rename_i f hf
       split at hc
       · rename_i ti hti
         cases hz:Nat.beq ti.size 0 with
         | true=>rw [hz] at hc;cases hc
         | false =>
          rw [hz] at hc
          have hc':((arg P 0 x).map (.faddr f.offset))=some so:=hc
          obtain ⟨y,hy,rfl⟩:=map_some hc'
          have hz':ti.size ≠ 0:=fun e=>by rw [e] at hz;cases hz
          simp only [aopK] at hr
          rcases khO h hy hr with ⟨b,off,hx,hr⟩ | ⟨sz,row,off,hx,hr⟩
          · cases kam hr;exact kpr h ho hs hf hti hz' hx
          · cases kam hr;exact kps h ho hs hf hti hz' hx
       · cases hc
     · cases hc
   · cases hc
 · rename_i s x i ho
   split at hc
   · rename_i fs hs
     split at hc
     · rename_i f hf
       split at hc
       · rename_i d ti hd hti
         obtain ⟨y,hy,rfl⟩:=map_some hc
         have hrep:=kaT h hy
         cases hag:isAg d with
         | true =>
          rw [hag] at hr
          simp only [aopK] at hr
          split at hr
          · rename_i cs he
            rw [he] at hrep
            obtain ⟨h1,hr⟩:=kac hr
            cases kam hr
            exact kut h ho hs hf hti hd hag hrep (Nat.le_of_ble_eq_true h1)
          · cases hr
         | false =>
          rw [hag] at hr
          simp only [aopK] at hr
          split at hr
          · rename_i cs he
            rw [he] at hrep
            obtain ⟨h1,hr⟩:=kac hr
            cases kam hr
            exact krb h ho hs hf hd hag hrep (Nat.le_of_ble_eq_true h1)
          · cases hr
       · cases hc
     · cases hc
   · cases hc
 · rename_i t x i ho
   split at hc
   · rename_i e ht
     split at hc
     · rename_i ti hti
       obtain ⟨x',i',hx,hi,rfl⟩:=kbm hc
       simp only [aopK] at hr
       obtain ⟨rows,hrows,hr⟩:=kgN h hx hr
       obtain ⟨n,hn,hr⟩:=kb5 h hi hr
       obtain ⟨h1,hr⟩:=kac hr
       simp only [Bool.and_eq_true,decide_eq_true_eq] at h1
       cases kam hr
       exact kuu h ho ht hti hrows hn h1.1 h1.2
     · cases hc
   · rename_i len e ht
     split at hc
     · rename_i ti hti
       obtain ⟨x',i',hx,hi,rfl⟩:=kbm hc
       simp only [aopK] at hr
       rcases khO h hx hr with ⟨b,off,hx,hr⟩ | ⟨sz,row,off,hx,hr⟩
       · obtain ⟨n,hn,hr⟩:=kb5 h hi hr
         obtain ⟨h1,hr⟩:=kac hr
         simp only [Bool.and_eq_true,decide_eq_true_eq] at h1
         cases kam hr
         exact kpt h ho ht hti hx hn h1.1 h1.2
       · obtain ⟨n,hn,hr⟩:=kb5 h hi hr
         obtain ⟨h1,hr⟩:=kac hr
         simp only [Bool.and_eq_true,decide_eq_true_eq] at h1
         cases kam hr
         exact kpu h ho ht hti hx hn h1.1 h1.2
     · cases hc
   · cases hc
 · rename_i t x i ho
   split at hc
   · rename_i ht
     obtain ⟨x',i',hx,hi,rfl⟩:=kbm hc
     simp only [aopK] at hr
     obtain ⟨s,hs,hr⟩:=khM h hx hr
     obtain ⟨n,hn,hr⟩:=kb5 h hi hr
     obtain ⟨h1,hr⟩:=kac hr
     simp only [Bool.and_eq_true,decide_eq_true_eq] at h1
     cases kam hr
     exact kDB h ht ho hs hn h1.1 h1.2
   · cases hc
 · rename_i t x lo hi ho
   split at hc
   · rename_i ht
     split at hc
     · rename_i x' lo' hi' hx hlo hhi
       cases hc
       simp only [aopK] at hr
       obtain ⟨s,hs,hr⟩:=khM h hx hr
       obtain ⟨u,hu,hr⟩:=kjx h hhi hr
       obtain ⟨l,hl,hr⟩:=kjx h hlo hr
       obtain ⟨h1,hr⟩:=kac hr
       simp only [Bool.and_eq_true,decide_eq_true_eq] at h1
       obtain ⟨⟨⟨h1,h2⟩,h3⟩,h4⟩:=h1
       cases kam hr
       exact kDF h ht ho hs hl hu h1 h2 h3 h4
     · cases hc
   · rename_i e ht
     split at hc
     · rename_i ti hti
       split at hc
       · rename_i x' lo' hi' hx hlo hhi
         cases hc
         simp only [aopK] at hr
         obtain ⟨s,hs,hr⟩:=kgN h hx hr
         obtain ⟨u,hu,hr⟩:=kjx h hhi hr
         obtain ⟨l,hl,hr⟩:=kjx h hlo hr
         obtain ⟨h1,hr⟩:=kac hr
         simp only [Bool.and_eq_true,decide_eq_true_eq] at h1
         obtain ⟨⟨⟨h1,h2⟩,h3⟩,h4⟩:=h1
         cases kam hr
         exact kAF h ht hti ho hs hl hu h1 h2 h3 h4
       · cases hc
     · cases hc
   · cases hc
 · rename_i op t x y ty ho
   split at hc
   · rename_i k ht
     obtain ⟨x',y',hx,hy,rfl⟩:=kbm hc
     simp only [aopK] at hr
     obtain ⟨m,hm,hr⟩:=kb5 h hx hr
     obtain ⟨n,hn,hr⟩:=kb5 h hy hr
     have hr':kky k op m n (fun d=>(some d).bind fun d=>some (.inl ⟨dv d,[],[],[]⟩:Res))=some r:=hr
     rw [<- kf9,Option.bind_eq_some_iff] at hr'
     obtain ⟨d,h1,h2⟩:=hr'
     cases kam h2
     exact kAz h ho hm hn h1
   · obtain ⟨x',y',hx,hy,rfl⟩:=kbm hc
     simp only [aopK] at hr
     obtain ⟨m,hm,hr⟩:=khM h hx hr
     obtain ⟨n,hn,hr⟩:=khM h hy hr
     have hr':kkz op m n (fun d=>(some d).bind fun d=>some (.inl ⟨dv d,[],[],[]⟩:Res))=some r:=hr
     rw [<- kga,Option.bind_eq_some_iff] at hr'
     obtain ⟨d,h1,h2⟩:=hr'
     cases kam h2
     exact kAA h ho hm hn h1
   · rename_i ht
     obtain ⟨x',y',hx,hy,rfl⟩:=kbm hc
     simp only [aopK] at hr
     obtain ⟨m,hm,hr⟩:=kjw h hx hr
     obtain ⟨n,hn,hr⟩:=kjw h hy hr
     have hr':kkA op m n (fun d=>(some d).bind fun d=>some (.inl ⟨dv d,[],[],[]⟩:Res))=some r:=hr
     rw [<- kgb,Option.bind_eq_some_iff] at hr'
     obtain ⟨d,h1,h2⟩:=hr'
     cases kam h2
     exact kAB h ht ho hm hn h1
   · rename_i ms ht
     obtain ⟨hn,hc⟩:=kac hc
     have hy:y=.const .nilIface:=by
      unfold kyg at hn
      split at hn<;>first | rfl | cases hn
     subst hy
     have main:∀ (neg:Bool) (x':SArg),arg P t x=some x'->o.op=.binOp (if neg then .neq else .eql) t x (.const .nilIface) ty->aopK (α:=Res) Γ shp (.inil neg x') nb nk vw (fun p=>some (.inl p)) (fun d hw=>some (.inr (d,hw)))=some r->OpOk P o a g r:=fun neg x' hx ho hr=>by
      simp only [aopK] at hr
      split at hr
      · rename_i d he
        have hrep:=kaT h hx
        rw [he] at hrep
        have hd:RepD g.w g.φ d (a.eval x):=by cases hrep with | one _ _ hq=>cases hq with | d _ _ hq=>exact hq
        cases h1:d.isNilI with
        | true =>
         rw [h1] at hr
         cases kam hr
         exact kq7 h ht ho hd (.inl ⟨D.isNilI_eq h1,rfl⟩)
        | false =>
         rw [h1] at hr
         obtain ⟨h2,hr⟩:=kac hr
         cases kam hr
         exact kq7 h ht ho hd (.inr ⟨h2,rfl⟩)
      · cases hr
     split at hc
     · obtain ⟨x',hx,rfl⟩:=map_some hc
       exact main false x' hx ho hr
     · obtain ⟨x',hx,rfl⟩:=map_some hc
       exact main true x' hx ho hr
     · cases hc
   · rename_i fs ht
     split at hc
     · rename_i ls hls
       cases hst:P.stoodInHeld t with
       | true=>rw [hst] at hc;cases hc
       | false =>
        cases hg:P.eqGuardType P.depth t with
        | true=>rw [hst,hg] at hc;cases hc
        | false =>
         rw [hst,hg] at hc
         have main:∀ (neg:Bool) (x' y':SArg),arg P t x=some x'->arg P t y=some y'->o.op=.binOp (if neg then .neq else .eql) t x y ty->aopK (α:=Res) Γ shp (.aeq neg ls x' y') nb nk vw (fun p=>some (.inl p)) (fun d hw=>some (.inr (d,hw)))=some r->OpOk P o a g r:=fun neg x' y' hx hy ho hr=>by
          simp only [aopK] at hr
          split at hr
          · rename_i xs ys hex hey
            have hrx:=kaT h hx
            rw [hex] at hrx
            have hry:=kaT h hy
            rw [hey] at hry
            obtain ⟨h1,hr⟩:=kac hr
            simp only [Bool.and_eq_true] at h1
            have hr':eqLs ls xs ys (fun q=>(some q).bind fun q=>some (.inl ⟨dv (.bool (cond neg (!q) q)),[],[],[]⟩:Res))=some r:=hr
            rw [<- kcA,Option.bind_eq_some_iff] at hr'
            obtain ⟨q,h2,h3⟩:=hr'
            cases kam h3
            exact kDI h ht hst hg hls ho hrx hry (Nat.eq_of_beq_eq_true h1.1) (Nat.eq_of_beq_eq_true h1.2) h2
          · cases hr
         simp only [Bool.or_self,cond_false] at hc
         split at hc
         · obtain ⟨x',y',hx,hy,rfl⟩:=kbm hc
           exact main false x' y' hx hy ho hr
         · obtain ⟨x',y',hx,hy,rfl⟩:=kbm hc
           exact main true x' y' hx hy ho hr
         · cases hc
     · cases hc
   · cases hc
 · rename_i t x ho
   obtain ⟨y,hy,rfl⟩:=map_some hc
   simp only [aopK] at hr
   obtain ⟨b,hb,hr⟩:=kjw h hy hr
   cases kam hr
   exact kDz h ho hb
 · rename_i t x ho
   split at hc
   · rename_i k ht
     obtain ⟨y,hy,rfl⟩:=map_some hc
     simp only [aopK] at hr
     obtain ⟨b,hb,hr⟩:=kb5 h hy hr
     cases kam hr
     exact kDA h ho hb
   · cases hc
 · rename_i s t x ho
   split at hc
   · rename_i k k' hs ht
     obtain ⟨y,hy,rfl⟩:=map_some hc
     simp only [aopK] at hr
     obtain ⟨b,hb,hr⟩:=kb5 h hy hr
     cases kam hr
     exact kAC h hs ht ho hb
   · rename_i e hs ht
     split at hc
     · rename_i he
       obtain ⟨y,hy,rfl⟩:=map_some hc
       simp only [aopK] at hr
       obtain ⟨rows,hrows,hr⟩:=kgN h hy hr
       have hr':bytesOf rows (fun s=>(some s).bind fun s=>some (.inl ⟨dv (.str ⟨s.toArray⟩),[],[],[]⟩:Res))=some r:=hr
       rw [<- kcU,Option.bind_eq_some_iff] at hr'
       obtain ⟨l,h2,h3⟩:=hr'
       cases kam h3
       exact kAE h ho hs he ht hrows h2
     · cases hc
   · cases hc
 · rename_i t x ho
   obtain ⟨hcon,hc⟩:=kac hc
   obtain ⟨y,hy,rfl⟩:=map_some hc
   have hrep:=kaT h hy
   simp only [aopK] at hr
   split at hr
   · rename_i cs he
     rw [he] at hrep
     have:=kjr hr
     cases kam this
     exact kDE h hcon ho hrep
   · cases hr
 · rename_i f first caps ho
   obtain ⟨h1,hc⟩:=kac hc
   obtain ⟨ys,hys,rfl⟩:=map_some hc
   have hf:first=#[]:=Array.eq_empty_of_size_eq_zero (Nat.eq_of_beq_eq_true h1)
   subst hf
   simp only [aopK] at hr
   obtain ⟨cs,hcs,hr⟩:=knz h hys hr
   cases kam hr
   exact kDD h ho (by simpa using hcs)
 · rename_i x i ho
   obtain ⟨y,hy,rfl⟩:=map_some hc
   have hrep:=kaT h hy
   simp only [aopK] at hr
   split at hr
   · rename_i vs he
     rw [he] at hrep
     obtain ⟨h1,hr⟩:=kac hr
     cases kam hr
     have:=Nat.le_of_ble_eq_true h1
     exact kDC h ho hrep this
   · cases hr
 · rename_i x ho
   obtain ⟨y,hy,rfl⟩:=map_some hc
   have hrep:=kaT h hy
   simp only [aopK] at hr
   split at hr
   · rename_i b off he
     rw [he] at hrep
     cases kam hr
     obtain ⟨B,_,hB⟩:=hrep.ptr_eq
     exact krc h ho hB hrep
   · rename_i sz row off he
     rw [he] at hrep
     cases kam hr
     obtain ⟨b,o',_,hB,_⟩:=hrep.rptr_eq
     exact krc h ho hB hrep
   · cases hr
 · rename_i f xs ts ho
   obtain ⟨ys,hys,rfl⟩:=map_some hc
   simp only [aopK] at hr
   exact kAI hΓ hs h ho hys hnk hr
 · rename_i x xs ts _ ho
   obtain ⟨y,ys,hy,hys,rfl⟩:=kbm hc
   have hrep:=kaT h hy
   simp only [aopK] at hr
   split at hr
   · rename_i f caps he
     rw [he] at hrep
     exact kuy hΓ hs h ho hys hrep hnk hr
   · cases hr
 · rename_i xs ts ho
   split at hc
   · rename_i x t hxs hts
     have e1:xs=#[x]:=by rw [<- Array.toArray_toList (xs:=xs),hxs]
     have e2:ts=#[t]:=by rw [<- Array.toArray_toList (xs:=ts),hts]
     subst e1
     subst e2
     split at hc
     · rename_i ht
       obtain ⟨y,hy,rfl⟩:=map_some hc
       simp only [aopK] at hr
       obtain ⟨s,hs,hr⟩:=khM h hy hr
       cases kam hr
       exact kAD h ht ho hs
     · rename_i e ht
       obtain ⟨y,hy,rfl⟩:=map_some hc
       have hrep:=kaT h hy
       simp only [aopK] at hr
       split at hr
       · rename_i d he
         rw [he] at hrep
         obtain ⟨h1,hr⟩:=kac hr
         obtain ⟨sz,hd⟩:=D.isL_eq h1
         cases kam hr
         have hrd:RepD g.w g.φ d (a.eval x):=by cases hrep with | one _ _ hq=>cases hq with | d _ _ hq=>exact hq
         exact klR h ht ho (by rw [hd] at hrd;exact hrd)
       · rename_i κ e' sz rows he
         rw [he] at hrep
         cases kam hr
         exact klR h ht ho (RepV.list (.inr (.inl ⟨κ,e',rfl⟩)) hrep)
       · rename_i sz he
         rw [he] at hrep
         cases kam hr
         exact klR h ht ho (sz:=sz) (rows:=[]) (RepV.list (.inr (.inr ⟨sz,rfl,rfl⟩)) hrep)
       · cases hr
     · cases hc
   · cases hc
 · rename_i xs ts ho
   split at hc
   · rename_i x y hxs
     have e1:xs=#[x,y]:=by rw [<- Array.toArray_toList (xs:=xs),hxs]
     subst e1
     obtain ⟨x',y',hx,hy,rfl⟩:=kbm hc
     simp only [aopK] at hr
     obtain ⟨m,hm,hr⟩:=kb5 h hx hr
     obtain ⟨n,hn,hr⟩:=kb5 h hy hr
     cases kam hr
     exact kq8 (mx:=false) h ho hm hn
   · cases hc
 · rename_i xs ts ho
   split at hc
   · rename_i x y hxs
     have e1:xs=#[x,y]:=by rw [<- Array.toArray_toList (xs:=xs),hxs]
     subst e1
     obtain ⟨x',y',hx,hy,rfl⟩:=kbm hc
     simp only [aopK] at hr
     obtain ⟨m,hm,hr⟩:=kb5 h hx hr
     obtain ⟨n,hn,hr⟩:=kb5 h hy hr
     cases kam hr
     exact kq8 (mx:=true) h ho hm hn
   · cases hc
 · rename_i xs ts ho
   split at hc
   · rename_i x y t t' hxs hts
     have e1:xs=#[x,y]:=by rw [<- Array.toArray_toList (xs:=xs),hxs]
     have e2:ts=#[t,t']:=by rw [<- Array.toArray_toList (xs:=ts),hts]
     subst e1
     subst e2
     split at hc
     · rename_i e ht
       split at hc
       · rename_i ti hti
         split at hc
         · rename_i z hz
           obtain ⟨h1,hc2⟩:=kac hc
           clear hc
           simp only [Bool.and_eq_true] at h1
           obtain ⟨⟨h1,h2⟩,h3⟩:=h1
           have h1:=Nat.eq_of_beq_eq_true h1
           subst h1
           have h2:=Nat.eq_of_beq_eq_true h2
           have h3:0 < ti.size:=Nat.le_of_ble_eq_true h3
           obtain ⟨x',y',hx,hy,rfl⟩:=kbm hc2
           have hrx:=kaT h hx
           simp only [aopK] at hr
           obtain ⟨new,hnew,hr⟩:=kgN h hy hr
           obtain ⟨h4,hr⟩:=kac hr
           have hne:new ≠ []:=fun e=>by subst e;cases h4
           split at hr
           · rename_i κ e' s rows he
             rw [he] at hrx
             obtain ⟨h5,hr2⟩:=kac hr
             clear hr
             simp only [Bool.and_eq_true] at h5
             obtain ⟨⟨⟨h5,h6⟩,h7⟩,h8⟩:=h5
             have h6:=Nat.eq_of_beq_eq_true h6
             have h7:=Nat.eq_of_beq_eq_true h7
             subst h6
             subst h7
             cases kam hr2
             obtain ⟨e1,s1,u1,hgk⟩:=h.live κ h5
             generalize hv:a.eval x=v at hrx
             cases hrx with
             | one _ _ hq =>
              cases hq with
              | own _ _ _ _ _ hd hk hu =>
               obtain ⟨rfl,rfl,rfl⟩:=hk _ _ _ hgk
               exact kye h ho ht hti hz h2 h3 hnk0 [κ] hv hd (.inr ⟨κ,rfl,hgk⟩) hnew hne (Nat.le_of_ble_eq_true h8)
           · rename_i s he
             rw [he] at hrx
             obtain ⟨h8,hr⟩:=kac hr
             cases kam hr
             generalize hv:a.eval x=v at hrx
             cases hrx with
             | one _ _ hq =>
              cases hq with
              | nilL =>
               have:=kye h ho ht hti hz h2 h3 hnk0 (rows:=[]) [] hv (.nil _ _ _) (.inl ⟨rfl,rfl,rfl⟩) hnew hne (by simpa using Nat.le_of_ble_eq_true h8)
               simpa using this
           · cases hr
         · cases hc
       · cases hc
     · cases hc
   · cases hc
 · rename_i x ho
   obtain ⟨y,hy,rfl⟩:=map_some hc
   have hrep:=kaT h hy
   simp only [aopK] at hr
   split at hr
   · rename_i d he
     rw [he] at hrep
     obtain ⟨h1,hr⟩:=kac hr
     have hrd:RepD g.w g.φ d (a.eval x):=by cases hrep with | one _ _ hq=>cases hq with | d _ _ hq=>exact hq
     cases hr
     intro K Q hK
     obtain ⟨t',u,hu⟩:∃ t' u,a.eval x=.iface t' u:=by
      generalize a.eval x=v at hrd
      rcases D.isI_eq h1 with rfl | ⟨t',row,rfl⟩
      · cases hrd;exact ⟨_,_,rfl⟩
      · cases hrd;exact ⟨_,_,rfl⟩
     have hrun:(execOp a.eval o).run P g.w=.halt (.panic (a.eval x)) g.w:=by
      simp only [execOp,ho,hu,Instr.panic,goPanic]
      rfl
     unfold Oper.wp
     rw [hrun]
     exact hK g (a.eval x) (RepP.pure h (.junk _)) hrd
   · cases hr
 · cases hc
end
end Go.Proofs.YtaphnbaiamnfpaaGreatDoor.Ps
