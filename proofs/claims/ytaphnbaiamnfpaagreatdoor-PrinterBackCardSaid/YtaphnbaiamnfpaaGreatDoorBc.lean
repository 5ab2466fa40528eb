/- Writing into a builder and reading it, as calls of the evaluator. -/
import Derived.Test.YtaphnbaiamnfpaaGreatDoorPsU
import Derived.Test.YtaphnbaiamnfpaaGreatDoorBw
namespace Go.Proofs.YtaphnbaiamnfpaaGreatDoor.Ps
set_option linter.unusedVariables false
set_option linter.unusedSimpArgs false
open Go Go.RowKit Go.Proofs
theorem ka7.one_eq {g:G} {x:V} {us:List Value} (h:ka7 g [x] us):∃ u,us=[u]∧RepV g x u:=by
 rcases us with _ | ⟨u,_ | ⟨v,us⟩⟩
 · exact absurd h.1 (by simp)
 · exact ⟨u,rfl,h.head.1⟩
 · exact absurd h.1 (by simp)
theorem ka7.two_eq {g:G} {x y:V} {us:List Value} (h:ka7 g [x,y] us):∃ u v,us=[u,v]∧RepV g x u∧RepV g y v:=by
 rcases us with _ | ⟨u,_ | ⟨v,_ | ⟨z,us⟩⟩⟩
 · exact absurd h.1 (by simp)
 · exact absurd h.1 (by simp)
 · exact ⟨u,v,rfl,h.head.1,h.head.2.head.1⟩
 · exact absurd h.1 (by simp)
theorem kuN {g:G} {x y:V} {u v:Value} (h:RepV g x u) (k:RepV g y v):RepV g (.tup [x,y]) (.tuple #[u,v]) :=
 .tup [x,y] [u,v] rfl (fun j hj=>by
  match j,hj with
  | 0,_=>exact h
  | 1,_=>exact k)
abbrev bRow (rs:List (List D)):List X:=[.slf 0,.own 0 5 1 rs]
def kay (l:List UInt8):List (List D):=l.map fun c=>[D.int .u8 (Int.ofNat c.toNat)]
theorem kep (l:List UInt8):(kay l).length=l.length:=List.length_map ..
theorem kpF (a b:List UInt8):kay (a++b)=kay a++kay b:=List.map_append ..
structure InMem (g:G) (rs:List (List D)) (B:Nat) (p v:Value) (T:TypeId) (n:Nat) (xs:List Value):Prop where
 at_:g.β 0=some B
 heap:g.w.heap[B]? = some (.cells #[p,v] T (0,0))
 slf:(p=.pointer none∧T=bT)∨p=.pointer (some ⟨B,0,none⟩)
 slfX:RepX g (.slf 0) p
 low:g.φ B=0
 key:g.gk 0=some (5,1,v)
 own:g.w.ownsRow 0 5 1 v n xs
 φ:∀ b,v.ownBlock=some b->g.φ b=n
 no:∀ b,v.ownBlock=some b->∀ i,g.β i ≠ some b
 rep:RepD g.w g.φ (.list 1 rs) v
 len:n=rs.length
 gk0:∀ κ,κ ≠ 0->g.gk κ=none
theorem kDR {g:G} {sh:List Lf} {rs:List (List D)} (he:Entry g [(sh,bRow rs)]):∃ B p v T n xs,InMem g rs B p v T n xs:=by
 obtain ⟨B,hB⟩:=he.blk 0 ⟨sh,bRow rs⟩ rfl
 obtain ⟨cs,T,hc,hr⟩:=hB.cells
 obtain ⟨p,v,rfl⟩:∃ p v,cs=#[p,v]:=by
  have h2:cs.toList.length=2:=hr.1
  obtain ⟨l⟩:=cs
  match l,h2 with
  | [a,b],_=>exact ⟨a,b,rfl⟩
 have hr:kaR g (bRow rs) [p,v]:=hr
 have hp:=hr.head.1
 have hv:=hr.head.2.head.1
 have hslf:(p=.pointer none∧T=bT)∨p=.pointer (some ⟨B,0,none⟩):=by
  cases hp with
  | slf0 _ B2 h1 ht =>
   have:B2=B:=by rw [hB.at_] at h1;cases h1;rfl
   subst this
   obtain ⟨cs',fr,hc'⟩:=ht
   rw [hc] at hc'
   cases hc'
   exact .inl ⟨rfl,rfl⟩
  | slf1 _ B2 h1 =>
   have:B2=B:=by rw [hB.at_] at h1;cases h1;rfl
   subst this
   exact .inr rfl
 cases hv with
 | own _ _ _ _ _ hd hk hlt =>
  obtain ⟨e,s,u,hu⟩:=he.live 0 (by simp [kas,kbl])
  obtain ⟨rfl,rfl,rfl⟩:=hk _ _ _ hu
  have ho:=he.own 0 _ _ _ hu
  obtain ⟨n,xs,h1,h2⟩:=ho.row
  refine ⟨B,p,v,T,n,xs,hB.at_,hc,hslf,hp,hB.low,hu,h1,fun b hb=>by rw [h2 b hb,Nat.mul_one],ho.no,hd,?_,fun κ hκ=>?_⟩
  · rcases h1.2 with ⟨e1,e2⟩ | ⟨gg,cap,cur,e1,_⟩
    · rw [e1] at hd
      cases hd
      exact e2
    · rw [e1] at hd
      cases hd<;>rfl
  · cases hq:g.gk κ with
    | none=>rfl
    | some t =>
     obtain ⟨e,s,u⟩:=t
     have:=he.us κ (he.used κ e s u hq)
     simp [kas,kbl] at this
     exact absurd this hκ
theorem khT {g:G} {rs:List (List D)} {B:Nat} {p v:Value} {T:TypeId} {n:Nat} {xs:List Value} (h:InMem g rs B p v T n xs) (i:Nat) (hi:i < rs.length):∃ u,xs[i]? = some u∧u.oneCell'=true∧RepD g.w g.φ (dat (rs.getD i []) 0) u:=by
 have hne:rs ≠ []:=fun e=>by rw [e] at hi;cases hi
 obtain ⟨b2,off2,c2,news2,he2,hnl2,hnφ2,hnc2,hn12,hnr2⟩:=h.rep.cells_of hne (by decide)
 obtain ⟨q,hq,hq1,hq2⟩:=hnr2 i 0 hi (by decide)
 have hlx:i < xs.length:=by rw [h.own.1,h.len];omega
 refine ⟨q,?_,hq1,hq2⟩
 have h1:=hnc2 _ q hq
 rcases h.own.2 with ⟨e1,e2⟩ | ⟨gg,cap,cur,e1,_⟩
 · rw [h.len] at e2;omega
 · have h2:=h.own.cells (g:=gg) (by rw [e1];rfl) i xs[i] (List.getElem?_eq_getElem hlx)
   rw [e1] at he2
   cases he2
   rw [kcz] at h2
   have e3:(0:Nat)+(i*1+0)=0+i:=by omega
   rw [e3,h2] at h1
   rw [List.getElem?_eq_getElem hlx]
   exact h1
theorem kAQ {w0:World} (sh:List Lf) (rs:List (List D)) (s:ByteArray) (hb:rs.length+s.size<=140737488355328) :
 kdT Tryz.prog w0 53 [.one (.ptr 0 0),dv (.str s)] [(sh,bRow rs)] ⟨true,.tup [i64 s.size,dv .nilI],.junk,[bRow (rs++kay s.data.toList)],1⟩:=by
 intro g us hs he hv
 obtain ⟨u1,u2,rfl,hu1,hu2⟩:=hv.two_eq
 obtain ⟨B0,hB0,rfl⟩:=hu1.ptr_eq
 have e2:=hu2.str_eq
 subst e2
 obtain ⟨B,p,v,T,n,xs,M⟩:=kDR he
 have:B0=B:=by have:=M.at_;rw [hB0] at this;cases this;rfl
 subst this
 have hne:v.ownBlock ≠ some B0:=fun e=>M.no B0 e 0 M.at_
 refine ⟨fun w=>?_,(kpE B0 n p v T xs s g.w M.heap M.slf M.own hne (by rw [M.len];exact hb)).mono ?_⟩
 · have hf:Tryz.prog.funcs[53]? = some Tryz.f53:=Tryz.func53
   simp [callFunc,Sem.run_bind,run_program,hf]
   rfl
 rintro e w' ⟨rfl,v',hb',hown',W⟩
 have hBlt:=he.lt 0 B0 M.at_
 have hvlt:∀ q,v.ownBlock=some q->q < g.w.heap.size:=fun q hq=>(M.own.lt q hq).2
 have hne':v'.ownBlock ≠ some B0:=fun e=>by
  rcases W.fresh B0 e with h | h
  · omega
  · exact hne h
 have hle:∀ q,g.φ q<=(if v'.ownBlock=some q then n+s.size else g.φ q):=fun q=>by
  split
  · rename_i hq
    rcases W.fresh q hq with h | h
    · rw [he.fresh q h];exact Nat.zero_le _
    · rw [M.φ q h];omega
  · exact Nat.le_refl _
 have hcell:∀ q o',o' < g.φ q->w'.cell? ⟨q,o',none⟩=g.w.cell? ⟨q,o',none⟩:=fun q o' ho=>by
  by_cases hqB:q=B0
  · subst hqB;rw [M.low] at ho;omega
  · by_cases hqv:v.ownBlock=some q
    · exact W.keep q hqv o' (by rw [<- M.φ q hqv];exact ho)
    · have hlt:q < g.w.heap.size:=by
       rcases Nat.lt_or_ge q g.w.heap.size with h | h
       · exact h
       · rw [he.fresh q h] at ho;omega
      exact World.cell?_of_block (W.block q hlt hqB (fun e=>hqv e.symm))
 have hext:Ext g.w g.φ w' (fun q=>if v'.ownBlock=some q then n+s.size else g.φ q):=⟨hcell,hle⟩
 have hlen:(rs++kay s.data.toList).length=n+s.size:=by rw [List.length_append,kep,<- M.len];rfl
 have hD:RepD w' (fun q=>if v'.ownBlock=some q then n+s.size else g.φ q) (.list 1 (rs++kay s.data.toList)) v':=by
  refine RepD.of_owned (e:=5) (xs:=xs++Lib.strCells s) (by rw [hlen];exact hown') (fun q hq=>by rw [hlen];simp only [if_pos hq];omega) (fun i j hi hj=>?_)
  obtain rfl:j=0:=by omega
  rw [Nat.mul_one,Nat.add_zero]
  have hxl:xs.length=rs.length:=by rw [M.own.1,M.len,Nat.mul_one]
  by_cases hin:i < rs.length
  · obtain ⟨u,h1,h2,h3⟩:=khT M i hin
    refine ⟨u,?_,h2,?_⟩
    · rw [List.getElem?_append_left (by omega)];exact h1
    · rw [kdC _ _ _ _ hin];exact h3.mono hext
  · have hi2:i - rs.length < s.data.toList.length:=by
     have h9:=hi
     rw [List.length_append,kep] at h9
     omega
    refine ⟨.int .u8 (s.data.toList[i - rs.length]).toNat,?_,rfl,?_⟩
    · rw [List.getElem?_append_right (by omega),hxl]
      unfold Lib.strCells
      rw [List.getElem?_map,List.getElem?_eq_getElem hi2]
      rfl
    · rw [kdb _ _ _ _ (by omega)]
      have:(kay s.data.toList).getD (i - rs.length) []=[D.int .u8 (Int.ofNat (s.data.toList[i - rs.length]).toNat)]:=by
       unfold kay
       rw [List.getD_eq_getElem?_getD,List.getElem?_map,List.getElem?_eq_getElem hi2]
       rfl
      rw [this]
      exact .int _ _
 refine ⟨{ w:=w',φ:=fun q=>if v'.ownBlock=some q then n+s.size else g.φ q,β:=g.β,gk:=fun κ=>if κ=0 then some (5,1,v') else none,us:=fun κ=>κ=0 },rfl,?_⟩
 have hk:∀ κ e s u,(if κ=0 then some (5,1,v') else none)=some (e,s,u)->κ=0∧e=5∧s=1∧u=v':=fun κ e s u h=>by
  split at h
  · cases h;exact ⟨by assumption,rfl,rfl,rfl⟩
  · cases h
 exact {
  step:=⟨W.os,W.tape,W.output,W.size,hext,fun b hb hm=>by
   have h1:b ≠ B0:=fun e=>hm (.inl ⟨0,by rw [e];exact M.at_⟩)
   have h2:v.ownBlock ≠ some b:=fun e=>hm (.inr ⟨0,_,_,_,M.key,e⟩)
   refine ⟨W.block b hb h1 (fun e=>h2 e.symm),if_neg fun e=>?_⟩
   rcases W.fresh b e with h | h
   · omega
   · exact h2 h,fun b hb=>by
   rcases hb with ⟨i,hi⟩ | ⟨κ,e,s,u,hu,hub⟩
   · exact .inl (.inl ⟨i,hi⟩)
   · obtain ⟨rfl,rfl,rfl,rfl⟩:=hk _ _ _ _ hu
     rcases W.fresh b hub with h | h
     · exact .inr h
     · exact .inl (.inr ⟨0,_,_,_,M.key,h⟩)⟩
  lens:=rfl
  β:=fun _ _=>rfl
  rows:=fun i hi=>by
   obtain rfl:i=0:=by simp at hi;exact hi
   refine ⟨B0,_,T,M.at_,hb',?_,if_neg hne' |>.trans M.low⟩
   exact .cons (.slf1 0 B0 M.at_) (.cons (.own 0 _ 1 _ v' hD (fun e' s' u hu=>by
    obtain ⟨_,rfl,rfl,rfl⟩:=hk 0 _ _ _ hu
    exact ⟨rfl,rfl,rfl⟩) rfl) (.nil _))
  fresh:=fun b hb=>by
   show (if v'.ownBlock=some b then n+s.size else g.φ b)=0
   rw [if_neg (fun e=>by have h1:=(hown'.lt b e).2;replace hb:w'.heap.size<=b:=hb;omega)]
   exact he.fresh b (Nat.le_trans W.size hb)
  ok:=fun _=>⟨_,rfl,kuN (.of_d (.int _ _)) (.of_d .nilI)⟩
  pan:=fun h=>by cases h
  alive:=fun κ hκ=>by
   have:κ=0:=Nat.lt_one_iff.1 hκ
   subst this
   exact ⟨(5,1,v'),show (if (0:Nat)=0 then some (5,1,v') else none)=_ from if_pos rfl⟩
  ty:=fun i B' T' hi hB' hT=>by
   obtain rfl:i=0:=by simp at hi;exact hi
   have:B'=B0:=by rw [M.at_] at hB';cases hB';rfl
   subst this
   obtain ⟨cs,fr,hc⟩:=hT
   rw [M.heap] at hc
   cases hc
   exact ⟨_,_,hb'⟩
  own:=fun κ e s' u hu=>by
   obtain ⟨rfl,rfl,rfl,rfl⟩:=hk _ _ _ _ hu
   refine ⟨⟨n+s.size,_,hown',fun b hb=>by show (if _ then _ else _)=_;rw [if_pos hb,Nat.mul_one]⟩,fun b hb i hi=>?_⟩
   rcases W.fresh b hb with h | h
   · have:=he.lt i b hi;omega
   · exact M.no b h i hi
  new:=fun κ e s' u b hu hub=>by
   obtain ⟨rfl,rfl,rfl,rfl⟩:=hk _ _ _ _ hu
   rcases W.fresh b hub with h | h
   · exact .inl h
   · exact .inr ⟨0,_,_,_,M.key,h⟩
  dist:=fun κ κ' e s' u e' s'' u' b hu hu' _ _=>by rw [(hk _ _ _ _ hu).1,(hk _ _ _ _ hu').1] }
def keG:List (List D)->Option (List UInt8)
 | []=>some []
 | r :: rs=>match dat r 0 with
  | .int .u8 n=>cond (decide (0<=n)&&decide (n < 256)) ((keG rs).bind fun l=>some (UInt8.ofNat n.toNat :: l)) none
  | _=>none
theorem knH:∀ l:List UInt8,keG (kay l)=some l
 | []=>rfl
 | c :: r=>by
  have hc:c.toNat < 256:=UInt8.toNat_lt c
  have e:(decide ((0:Int)<=Int.ofNat c.toNat)&&decide (Int.ofNat c.toNat < (256:Int)))=true:=by
   simp only [Int.ofNat_eq_natCast,Bool.and_eq_true,decide_eq_true_eq];omega
  show cond (decide ((0:Int)<=Int.ofNat c.toNat)&&decide (Int.ofNat c.toNat < (256:Int))) ((keG (kay r)).bind fun l=>some (UInt8.ofNat c.toNat :: l)) none=_
  rw [e,knH r]
  show some (UInt8.ofNat c.toNat :: r)=_
  rw [UInt8.ofNat_toNat]
theorem kkR:∀ {rs:List (List D)} {l:List UInt8},keG rs=some l->l.length=rs.length∧∀ (j:Nat) x,l[j]? = some x->j < rs.length∧dat (rs.getD j []) 0=.int .u8 x.toNat
 | [],l,h=>by cases h;exact ⟨rfl,fun j x hj=>by cases hj⟩
 | r :: rs,l,h=>by
  unfold keG at h
  split at h
  · rename_i n hd
    cases hc:(decide ((0:Int)<=n)&&decide (n < 256)) with
    | false=>rw [hc] at h;cases h
    | true =>
     rw [hc,cond_true] at h
     rw [Bool.and_eq_true,decide_eq_true_eq,decide_eq_true_eq] at hc
     cases ht:keG rs with
     | none=>rw [ht] at h;cases h
     | some l' =>
      rw [ht] at h
      cases h
      obtain ⟨h3,h4⟩:=kkR ht
      refine ⟨by simp [h3],fun j x hj=>?_⟩
      cases j with
      | zero =>
       cases hj
       refine ⟨by simp,?_⟩
       show dat r 0=_
       rw [hd,UInt8.toNat_ofNat']
       congr 1
       omega
      | succ j =>
       obtain ⟨h5,h6⟩:=h4 j x hj
       exact ⟨by simp;omega,h6⟩
  · cases h
theorem kDS {w0:World} (sh:List Lf) (rs:List (List D)) (l:List UInt8) (hl:keG rs=some l) (h0:l ≠ []) :
 kdT Tryz.prog w0 60 [.one (.ptr 0 0)] [(sh,bRow rs)] ⟨true,dv (.str ⟨l.toArray⟩),.junk,[[.slf 0,.d .junk]],0⟩:=by
 intro g us hs he hv
 obtain ⟨u1,rfl,hu1⟩:=hv.one_eq
 obtain ⟨B0,hB0,rfl⟩:=hu1.ptr_eq
 obtain ⟨B,p,v,T,n,xs,M⟩:=kDR he
 have:B0=B:=by have:=M.at_;rw [hB0] at this;cases this;rfl
 subst this
 have hne:v.ownBlock ≠ some B0:=fun e=>M.no B0 e 0 M.at_
 obtain ⟨hlen,hat⟩:=kkR hl
 have hpos:0 < l.length:=List.length_pos_iff.2 h0
 have hn:n=l.length:=by rw [M.len,hlen]
 obtain ⟨q,cap,cur,hv1,hqh,hnc,hcm,hcs⟩:∃ q cap cur,v=.slice (some ⟨q,0,none⟩) l.length cap∧g.w.heap[q]? = some (.cells cur 5 (0,0))∧l.length<=cap∧cap<=maxLen∧cur.size=cap:=by
  rcases M.own.2 with ⟨_,hz⟩ | ⟨q,cap,cur,e1,_,hq,h1,h2,h3,_⟩
  · omega
  · exact ⟨q,cap,cur,by rw [e1,hn],hq,by omega,h2,by rw [h3,Nat.mul_one]⟩
 have hcell:∀ j x,l[j]? = some x->g.w.cell? ((⟨q,0,none⟩:Addr).add j)=some (.int .u8 x.toNat):=fun j x hj=>by
  obtain ⟨h1,h2⟩:=hat j x hj
  obtain ⟨u,h3,h4,h5⟩:=khT M j h1
  rw [h2] at h5
  have:u=.int .u8 x.toNat:=by cases h5;rfl
  rw [this] at h3
  exact M.own.cells (g:=q) (by rw [hv1];rfl) j _ h3
 have hbk:=M.heap
 rw [hv1] at hbk
 refine ⟨fun w=>?_,(kuM B0 p T q cap cur l g.w h0 hbk hqh hnc hcm hcs hcell).mono ?_⟩
 · have hf:Tryz.prog.funcs[60]? = some Tryz.f60:=Tryz.func60
   simp [callFunc,Sem.run_bind,run_program,hf]
   rfl
 rintro e w' ⟨rfl,W⟩
 rw [<- hv1] at W
 have hBlt:=he.lt 0 B0 M.at_
 have hcell2:∀ q o',o' < g.φ q->w'.cell? ⟨q,o',none⟩=g.w.cell? ⟨q,o',none⟩:=fun q o' ho=>W.cell q o' (by
  rcases Nat.lt_or_ge q g.w.heap.size with h | h
  · exact h
  · rw [he.fresh q h] at ho;omega)
 have hB':w'.heap[B0]? = g.w.heap[B0]?:=W.block B0 hBlt (fun e=>hne e.symm)
 refine ⟨{ w:=w',φ:=g.φ,β:=g.β,gk:=fun _=>none,us:=fun _=>False },rfl,?_⟩
 exact {
  step:=⟨W.os,W.tape,W.output,W.size,⟨hcell2,fun _=>Nat.le_refl _⟩,fun b hb hm=>⟨W.block b hb (fun e=>hm (.inr ⟨0,_,_,_,M.key,e.symm⟩)),rfl⟩,fun b hb=>by
   rcases hb with ⟨i,hi⟩ | ⟨κ,e,s,u,hu,hub⟩
   · exact .inl (.inl ⟨i,hi⟩)
   · cases hu⟩
  lens:=rfl
  β:=fun _ _=>rfl
  rows:=fun i hi=>by
   obtain rfl:i=0:=by simp at hi;exact hi
   refine ⟨B0,_,T,M.at_,hB'.trans M.heap,?_,M.low⟩
   refine .cons ?_ (.cons (.d _ _ (.junk _ (by rw [hv1];rfl))) (.nil _))
   rcases M.slf with ⟨h1,h2⟩ | h1
   · rw [h1]
     exact .slf0 0 B0 M.at_ ⟨_,_,hB'.trans (h2▸M.heap)⟩
   · rw [h1]
     exact .slf1 0 B0 M.at_
  fresh:=fun b hb=>he.fresh b (Nat.le_trans W.size hb)
  ok:=fun _=>⟨_,rfl,.of_d (.str _)⟩
  pan:=fun h=>by cases h
  alive:=fun κ h=>absurd h (Nat.not_lt_zero κ)
  ty:=fun i B' T' hi hB2 hT=>by
   obtain rfl:i=0:=by simp at hi;exact hi
   have:B'=B0:=by rw [M.at_] at hB2;cases hB2;rfl
   subst this
   obtain ⟨cs,fr,hc⟩:=hT
   exact ⟨cs,fr,hB'.trans hc⟩
  own:=fun κ e s u h=>by cases h
  new:=fun κ e s u b h=>by cases h
  dist:=fun κ κ' e s u e' s' u' b h=>by cases h }
end Go.Proofs.YtaphnbaiamnfpaaGreatDoor.Ps
