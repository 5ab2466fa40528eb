/- Lists made, lists cut, bytes to a text, two structs held against each other. -/
import Derived.Test.YtaphnbaiamnfpaaGreatDoorPsI
namespace Go.Proofs.YtaphnbaiamnfpaaGreatDoor.Ps
set_option linter.unusedVariables false
set_option linter.unusedSimpArgs false
open Go Go.RowKit
section
variable {P:Program} {o:Oper} {a:Act} {N:Nat} {g:G} {vw:View}
def litC (P:Program) (e:TypeId):Nat->List (Nat × Operand)->Option (List SArg)
 | _,[]=>some []
 | k,(i,x) :: r=>cond (Nat.beq i k) (match arg P e x,litC P e (k+1) r with | some y,some ys=>some (y :: ys) | _,_=>none) none
theorem knt (h:Rep N g vw a) {e:TypeId} {sz:Nat} {α:Type} {r:α}:∀ (parts:List (Nat × Operand)) (sp:List SArg) (k:Nat),litC P e k parts=some sp ->
 ∀ (done rest:List Value) (K:List (List D)->Option α),done.length=k*sz->rest.length=parts.length*sz->litK vw.env sz sp K=some r ->
 ∃ rows news,K rows=some r∧rows.length=parts.length∧news.length=rows.length*sz∧(∀ i j,i < rows.length->j < sz->∃ u,news[i*sz+j]? = some u∧u.oneCell'=true∧RepD g.w g.φ (dat (rows.getD i []) j) u) ∧
  Instr.fill (fun i=>some (i*sz,sz)) (done++rest).toArray (parts.map fun x=>(x.1,a.eval x.2))=some (done++news).toArray
 | [],sp,k,hs,done,rest,K,hd,hr,hk=>by
  cases hs
  have:rest=[]:=List.eq_nil_of_length_eq_zero (by simpa using hr)
  subst this
  exact ⟨[],[],hk,rfl,by simp,fun i j hi=>absurd hi (by simp),rfl⟩
 | (i,x) :: ps,sp,k,hs,done,rest,K,hd,hr,hk=>by
  unfold litC at hs
  obtain ⟨hik,hs⟩:=kac hs
  have hik:=Nat.eq_of_beq_eq_true hik
  subst hik
  split at hs
  · rename_i y ys hy hys
    cases hs
    unfold litK at hk
    obtain ⟨p,hk,hpv⟩:=kb4 hk
    obtain ⟨hc,hk⟩:=kac hk
    have hc:=Nat.eq_of_beq_eq_true hc
    have hk:=kjr hk
    have hpr:=V.cells_rep hpv (kaT h hy)
    have hul:(a.eval x).cells.toList.length=sz:=by rw [hpr.1,hc]
    have hus:(a.eval x).cells.size=sz:=by simpa using hul
    have hrl:rest.length=sz+ps.length*sz:=by rw [hr,List.length_cons,Nat.add_mul,Nat.one_mul,Nat.add_comm]
    obtain ⟨rows,news,h1,h2,h3,h4,h5⟩:=knt h ps ys (i+1) hys (done++(a.eval x).cells.toList) (rest.drop sz) _ (by rw [List.length_append,hd,hul,Nat.add_mul,Nat.one_mul]) (by rw [List.length_drop];omega) hk
    refine ⟨p.map X.toD :: rows,(a.eval x).cells.toList++news,h1,by simp [h2],by rw [List.length_append,hul,h3,List.length_cons,Nat.add_mul,Nat.one_mul,Nat.add_comm],?_,?_⟩
    · intro q j hq hj
      cases q with
      | zero =>
       have hj2:j < (a.eval x).cells.toList.length:=by omega
       refine ⟨(a.eval x).cells.toList[j],?_,hpr.one _ (List.getElem_mem hj2),?_⟩
       · rw [Nat.zero_mul,Nat.zero_add,List.getElem?_append_left hj2,List.getElem?_eq_getElem hj2]
       · have hj3:j < p.length:=by omega
         have:=(hpr.2 j hj3).toD
         rw [List.getD_eq_getElem?_getD,List.getElem?_eq_getElem hj3,List.getD_eq_getElem?_getD,List.getElem?_eq_getElem hj2] at this
         show RepD _ _ (dat (p.map X.toD) j) _
         unfold dat
         rw [List.getD_eq_getElem?_getD,List.getElem?_map,List.getElem?_eq_getElem hj3]
         exact this
      | succ q =>
       obtain ⟨u,hu1,hu2,hu3⟩:=h4 q j (by simpa using hq) hj
       refine ⟨u,?_,hu2,by simpa using hu3⟩
       rw [List.getElem?_append_right (by rw [hul,Nat.add_mul,Nat.one_mul];omega),hul]
       have:(q+1)*sz+j - sz=q*sz+j:=by rw [Nat.add_mul,Nat.one_mul];omega
       rw [this]
       exact hu1
    · simp only [List.map_cons,Instr.fill]
      have hfc:=kiA (a.eval x).cells.toList 0 (i*sz) (done++rest) (by rw [List.length_append,hd,hrl,hul];omega)
      simp only [Nat.add_zero] at hfc
      have e1:(done++rest).take (i*sz)=done:=by rw [<- hd];exact List.take_left
      have e2:(done++rest).drop (i*sz+(a.eval x).cells.toList.length)=rest.drop sz:=by
       rw [hul,<- hd,List.drop_append,List.drop_eq_nil_of_le (by omega),List.nil_append,Nat.add_sub_cancel_left]
      rw [if_neg (by simp [hus];omega)]
      have harr:((a.eval x).cells.zipIdx.foldl (fun (cs:Array Value) (x:Value × Nat)=>cs.setIfInBounds (i*sz+x.2) x.1) (done++rest).toArray)=((done++(a.eval x).cells.toList)++rest.drop sz).toArray:=by
       rw [<- Array.foldl_toList,Array.toList_zipIdx,hfc,e1,e2]
      rw [<- List.append_assoc]
      exact (congrArg (fun q=>Instr.fill (fun i=>some (i*sz,sz)) q (ps.map fun x=>(x.1,a.eval x.2))) harr).trans h5
  · cases hs
theorem kkE {α:Type} (f:Nat->α) (n:Nat):(Array.range n).map f=((List.range n).map f).toArray:=by
 apply Array.ext<;>simp
theorem kic {w:World} {t e:TypeId} {ti:TypeInfo} {z:Value} {len:Nat} {parts:Array (Nat × Value)} (ht:P.underlying t=some (.slice e)) (hi:P.info? e=some ti) (hz:ti.zero=some z) (hl:len*ti.size<=16777216) :
 ∃ rest:List Value,rest.length=len*ti.size∧∀ news:List Value,Instr.fill (fun i=>some (i*ti.size,ti.size)) rest.toArray parts.toList=some news.toArray ->
  (Instr.buildSlice t len parts).run P w=.ok (.slice (some ⟨w.heap.size,0,none⟩) len len) (w.alloc (.cells news.toArray e)):=by
 have e1:(sizeOf e).run P w=.ok ti.size w:=by simp [sizeOf,typeInfo,hi]
 have e2:(zeroValue e).run P w=.ok z w:=by simp [zeroValue,typeInfo,hi,hz]
 have hlt:¬ (len*ti.size > 2 ^ 24):=by omega
 by_cases hzero:len*ti.size=0
 · refine ⟨(List.range (len*ti.size)).map fun i=>(#[]:Array Value)[i % (#[]:Array Value).size]!,by simp,fun news hf=>?_⟩
   unfold Instr.buildSlice
   rw [Sem.run_bind,run_underlying ht,Result.andThen_ok]
   rw [Sem.run_bind,e1,Result.andThen_ok]
   rw [if_neg hlt]
   simp only [hzero,if_true]
   rw [hzero] at hf
   rw [Sem.run_bind,Sem.run_pure,Result.andThen_ok,kkE,hf]
   rfl
 · refine ⟨(List.range (len*ti.size)).map fun i=>z.cells[i % z.cells.size]!,by simp,fun news hf=>?_⟩
   unfold Instr.buildSlice
   rw [Sem.run_bind,run_underlying ht,Result.andThen_ok]
   rw [Sem.run_bind,e1,Result.andThen_ok]
   rw [if_neg hlt]
   simp only [hzero,if_false]
   rw [Sem.run_bind,e2,Result.andThen_ok,Sem.run_bind,Sem.run_pure,Result.andThen_ok,kkE,hf]
   rfl
theorem kDH (h:Rep N g vw a) {t e:TypeId} {len:Nat} {parts:Array (Nat × Operand)} (ho:o.op=.buildSlice t len parts) {ti:TypeInfo} {z:Value} (ht:P.underlying t=some (.slice e)) (hi:P.info? e=some ti) (hz:ti.zero=some z) (hl:len*ti.size<=16777216)
 (hm:len<=maxLen) {sp:List SArg} (hs:litC P e 0 parts.toList=some sp) (hlen:parts.toList.length=len) {nk:Nat} (hnk:¬ g.us nk) {rows:List (List D)} (hk:litK (α:=List (List D)) vw.env ti.size sp some=some rows) :
 OpOk P o a g (.inl ⟨.one (.own nk e ti.size rows),[],[],[nk]⟩):=by
 intro K Q hK
 obtain ⟨rest,hrest,hrun⟩:=kic (P:=P) (w:=g.w) (parts:=parts.map fun x=>(x.1,a.eval x.2)) ht hi hz hl
 obtain ⟨rows',news,h1,h2,h3,h4,h5⟩:=knt h parts.toList sp 0 hs [] rest some (by simp) (by rw [hrest,hlen]) hk
 cases h1
 have hr:=hrun news (by simpa using h5)
 have hrl:rows.length=len:=by rw [h2,hlen]
 have hown:(g.w.alloc (.cells news.toArray e)).ownsRow 0 e ti.size (.slice (some ⟨g.w.heap.size,0,none⟩) len len) len news:=by
  refine ⟨by rw [h3,hrl],.inr ⟨g.w.heap.size,len,news.toArray,rfl,Nat.zero_le _,Go.heap_alloc_new _ _,Nat.le_refl _,hm,by simp [h3,hrl],?_⟩⟩
  rw [<- hrl,<- h3]
  simp
 have hφ:∀ b,g.φ b<=(if b=g.w.heap.size then len*ti.size else g.φ b):=fun b=>by
  split
  · rename_i hb
    rw [hb,h.fresh _ (Nat.le_refl _)];exact Nat.zero_le _
  · exact Nat.le_refl _
 have hex:Ext g.w g.φ (g.w.alloc (.cells news.toArray e)) (fun b=>if b=g.w.heap.size then len*ti.size else g.φ b):=khA _ h.fresh hφ
 refine kdl (v:=.slice (some ⟨g.w.heap.size,0,none⟩) len len) ?_ (hK _ _ (RepP.ofBorn h _ (fun b=>if b=g.w.heap.size then len*ti.size else g.φ b) nk e ti.size rows [] _ none hnk len news hown
  (fun b hb=>by cases hb;exact if_pos rfl) (World.grownBy_alloc _ _ _) (fun b hb=>by cases hb) (fun b hb=>by cases hb;exact ⟨by rw [kco];exact Nat.lt_succ_self _,.inl (Nat.le_refl _)⟩)
  (fun b hb=>if_neg (fun e1=>hb (by rw [e1];rfl))) hφ hex.cell ?_))
 · simp only [execOp,ho]
   rw [Sem.run_bind,hr]
   rfl
 · refine RepD.of_owned (e:=e) (xs:=news) (by rw [hrl];exact hown) (fun b hb=>by cases hb;rw [hrl];simp) (fun i j hi' hj=>?_)
   obtain ⟨u,hu,hu1,hu2⟩:=h4 i j hi' hj
   exact ⟨u,hu,hu1,hu2.mono hex⟩
theorem krc (h:Rep N g vw a) {x:Operand} (ho:o.op=.nilCheck x) {A:Addr} (hx:a.eval x=.pointer (some A)) {y:V} (hy:RepV g y (a.eval x)):OpOk P o a g (.inl ⟨y,[],[],[]⟩) :=
 OpOk.pure h (v:=a.eval x) (by simp [execOp,ho,hx]) hy
theorem kAE (h:Rep N g vw a) {s e t:TypeId} {x:Operand} (ho:o.op=.convert s t x) (hs:P.underlying s=some (.slice e)) (he:P.underlying e=some (.int .u8)) (ht:P.underlying t=some .string) {rows:List (List D)}
 (hx:RepD g.w g.φ (.list 1 rows) (a.eval x)) {l:List UInt8} (hk:bytesOf (α:=List UInt8) rows some=some l):OpOk P o a g (.inl ⟨dv (.str ⟨l.toArray⟩),[],[],[]⟩):=by
 have hb:∀ (rows:List (List D)) (K:List UInt8->Option (List UInt8)) (l:List UInt8),bytesOf rows K=some l->∃ ns:List Int,rows.length=ns.length∧(∀ i,i < rows.length->dat (rows.getD i []) 0=.int .u8 (ns.getD i 0))∧K (ns.map fun n=>UInt8.ofNat n.toNat)=some l:=by
  intro rows
  induction rows with
  | nil=>intro K l hk;exact ⟨[],rfl,fun i hi=>absurd hi (by simp),hk⟩
  | cons r rs ih =>
   intro K l hk
   unfold bytesOf at hk
   obtain ⟨n,hn,hk⟩:=kaS hk
   obtain ⟨ns,h1,h2,h3⟩:=ih _ l hk
   refine ⟨n :: ns,by simp [h1],fun i hi=>?_,h3⟩
   cases i with
   | zero=>simpa [dv] using hn
   | succ i=>simpa using h2 i (by simpa using hi)
 obtain ⟨ns,hl,hd,hK⟩:=hb rows some l hk
 cases hK
 have hfold:∀ (ns:List Int) (s:ByteArray),ns.foldl (fun r n=>r.push (UInt8.ofNat n.toNat)) s=⟨(s.data.toList++ns.map fun n=>UInt8.ofNat n.toNat).toArray⟩:=by
  intro ns
  induction ns with
  | nil=>intro s;simp
  | cons n ns ih =>
   intro s
   rw [List.foldl_cons,ih]
   congr 1
   simp [ByteArray.push]
 have key:(convert s t (a.eval x)).run P g.w=.ok (.string ⟨(ns.map fun n=>UInt8.ofNat n.toNat).toArray⟩) g.w:=by
  generalize hv:a.eval x=v at hx
  cases hx with
  | nil _ A c =>
   have:ns=[]:=List.eq_nil_of_length_eq_zero hl.symm
   subst this
   rw [run_convert_bytes_string g.w s t e _ _ _ hs he ht]
   cases A with
   | none=>rfl
   | some A =>
    have:=run_bytesToString (P:=P) g.w A 0 c [] (by rfl)
    rw [this]
    rfl
  | list _ _ b off c vs hc hbb hcell hone hrep =>
   rw [run_convert_bytes_string g.w s t e _ _ _ hs he ht]
   have hcs:(loadCells ⟨b,off,none⟩ rows.length).run P g.w=.ok (ns.map (Value.int .u8)).toArray g.w:=by
    have:=run_loadCells_list (P:=P) g.w ⟨b,off,none⟩ (ns.map (Value.int .u8)) (fun j v hv=>by
     rw [List.getElem?_map] at hv
     by_cases hj:j < ns.length
     · rw [List.getElem?_eq_getElem hj] at hv
       simp only [Option.map_some,Option.some.injEq] at hv
       subst hv
       have h1:=hcell j 0 (by omega) (by omega)
       have h2:=hrep j 0 (by omega) (by omega)
       rw [hd j (by omega),List.getD_eq_getElem?_getD,List.getElem?_eq_getElem hj] at h2
       have h3:vs j 0=.int .u8 ns[j]:=by
        generalize vs j 0=u at h2
        cases h2
        rfl
       rw [kcz,<- h3,<- h1,Nat.mul_one,Nat.add_zero]
     · rw [List.getElem?_eq_none (by omega)] at hv
       cases hv)
    rw [List.length_map,<- hl] at this
    exact this
   rw [run_bytesToString (P:=P) g.w ⟨b,off,none⟩ rows.length c ns hcs,hfold]
   rfl
 refine OpOk.pure h (v:=.string ⟨(ns.map fun n=>UInt8.ofNat n.toNat).toArray⟩) ?_ (.of_d (.str _))
 simp only [execOp,ho]
 rw [Sem.run_bind,key]
 rfl
theorem kAF (h:Rep N g vw a) {t e:TypeId} {x:Operand} {lo hi:Option Operand} {ti:TypeInfo} (ht:P.underlying t=some (.slice e)) (hi':P.info? e=some ti) (ho:o.op=.slice t x lo hi none) {rows:List (List D)} (hx:RepD g.w g.φ (.list ti.size rows) (a.eval x)) {l r:Int}
 (hlo:(lo=none∧l=0)∨∃ y,lo=some y∧a.eval y=.int .i64 l) (hhi:(hi=none∧r=(rows.length:Int))∨∃ y,hi=some y∧a.eval y=.int .i64 r) (h0:0<=r) (h1:r<=(rows.length:Int)) (h2:0<=l) (h3:l<=r) :
 OpOk P o a g (.inl ⟨dv (.list ti.size ((rows.take r.toNat).drop l.toNat)),[],[],[]⟩):=by
 have er:(r.toNat:Int)=r:=Int.toNat_of_nonneg h0
 have hsz:(sizeOf e).run P g.w=.ok ti.size g.w:=by simp [sizeOf,typeInfo,hi']
 have hrun:∀ (A:Option Addr) (n c:Nat),a.eval x=.slice A n c->n=rows.length->n<=c ->
  (execOp a.eval o).run P g.w=.ok (.value (.slice (if c=l.toNat then A else A.map (·.add (l.toNat*ti.size))) (r.toNat - l.toNat) (c - l.toNat))) g.w:=fun A n c hv hn hc=>by
  subst hn
  have hrc:r<=(c:Int):=by omega
  rcases hlo with ⟨rfl,rfl⟩ | ⟨y,rfl,hy⟩<;>rcases hhi with ⟨rfl,rfl⟩ | ⟨z,rfl,hz⟩ <;>
   simp [execOp,ho,hv, *,Instr.sliceAt,Instr.slice,run_underlying ht,Instr.sliceBounds,Instr.sliceBound,asIntOf,hsz]
 generalize hv:a.eval x=v at hx
 cases hx with
 | nil _ A c =>
  have hl0:l.toNat=0:=by simp at h1;omega
  have hr0:r.toNat=0:=by simp at h1;omega
  refine OpOk.pure h (hrun A 0 c hv rfl (Nat.zero_le _)) (.of_d ?_)
  rw [hl0,hr0]
  exact .nil _ _ _
 | list _ _ b off c vs hc hbb hcell hone hrep =>
  refine OpOk.pure h (hrun _ _ c hv rfl hc) (.of_d ?_)
  by_cases hlr:l.toNat=r.toNat
  · rw [hlr,Nat.sub_self,List.drop_eq_nil_of_le (by rw [List.length_take];omega)]
    exact .nil _ _ _
  · have hlt:l.toNat < r.toNat:=by omega
    have hne:c ≠ l.toNat:=by omega
    have hlen:((rows.take r.toNat).drop l.toNat).length=r.toNat - l.toNat:=by rw [List.length_drop,List.length_take];omega
    rw [if_neg hne]
    simp only [Option.map_some,kcz]
    rw [<- hlen]
    have hget:∀ i,i < ((rows.take r.toNat).drop l.toNat).length->((rows.take r.toNat).drop l.toNat).getD i []=rows.getD (l.toNat+i) []:=fun i hi=>by
     rw [List.getD_eq_getElem?_getD,List.getD_eq_getElem?_getD,List.getElem?_drop,List.getElem?_take]
     rw [if_pos (by omega)]
    refine .list _ _ b _ _ (fun i j=>vs (l.toNat+i) j) (by omega) ?_ (fun i j hi hj=>?_) (fun i j hi hj=>hone _ j (by omega) hj) (fun i j hi hj=>?_)
    · rw [hlen]
      have:l.toNat*ti.size+(r.toNat - l.toNat)*ti.size<=rows.length*ti.size:=by rw [<- Nat.add_mul];exact Nat.mul_le_mul_right _ (by omega)
      omega
    · rw [<- hcell (l.toNat+i) j (by omega) hj,Nat.add_mul]
      congr 2
      omega
    · rw [hget i hi]
      exact hrep _ j (by omega) hj
def eqC (P:Program):Nat->List Field->Option (List Lf)
 | _,[]=>some []
 | k, f :: fs => cond (Nat.beq f.offset k && !(f.name == "_"))
  (match P.underlying f.type,eqC P (k+1) fs with
  | some (.int k),some ls=>some (.int k :: ls)
  | some .bool,some ls=>some (.bool :: ls)
  | some .string,some ls=>some (.str :: ls)
  | _,_=>none) none
theorem kfu {α:Type} {xs xs':List α} {k:Nat} {x:α} (h:xs.drop k=x :: xs'):xs[k]? = some x∧xs.drop (k+1)=xs':=by
 have h1:(xs.drop k)[0]? = some x:=by rw [h];rfl
 rw [List.getElem?_drop,Nat.add_zero] at h1
 refine ⟨h1,?_⟩
 have h2:(xs.drop k).drop 1=xs':=by rw [h];rfl
 rw [List.drop_drop] at h2
 exact h2
theorem knu {w:World} {t:TypeId} {d:TypeDesc} {us:List Value} {k:Nat} {u:Value} (hd:P.underlying t=some d) (hag:isAg d=false) (hu:us[k]? = some u):(part t us.toArray k).run P w=.ok u w:=by
 have hagg:(isAgg t).run P w=.ok false w:=by
  unfold isAgg
  rw [Sem.run_bind,run_underlying hd]
  cases d<;>simp_all [isAg]
 simp [part,hagg,hu]
theorem RepX.toD_eq {g:G} {d:D} {u:Value} {x:X} (h:RepX g x u) (e:V.one x=dv d):RepD g.w g.φ d u:=by
 cases e
 cases h
 assumption
theorem klS {w : World} {d : Nat} {f : Field} {fs : List Field} {us vs : List Value} {u v : Value} {k : Nat} {td : TypeDesc} {b q : Bool} (ho : f.offset = k) (hn : f.name ≠ "_") (hd : P.underlying f.type = some td) (hag : isAg td = false) (hu : us[k]? = some u) (hv : vs[k]? = some v)
 (he:(Op.equalIn (d+1) f.type u v).run P w=.ok b w) (hr:(Op.eqFields (d+1) us.toArray vs.toArray fs).run P w=.ok q w):(Op.eqFields (d+1) us.toArray vs.toArray (f :: fs)).run P w=.ok (b&&q) w:=by
 subst ho
 simp only [Op.eqFields,hn,ne_eq,not_false_eq_true,if_true,Sem.run_bind,knu hd hag hu,knu hd hag hv,Result.andThen_ok,he]
 cases b
 · rfl
 · simpa using hr
theorem kfv {w:World} {d:Nat}:∀ (fs:List Field) (k:Nat) (ls:List Lf),eqC P k fs=some ls->∀ (xs ys:List X) (us vs:List Value) (r:Bool),kaR g (xs.drop k) (us.drop k)->kaR g (ys.drop k) (vs.drop k) ->
 (xs.drop k).length=ls.length->(ys.drop k).length=ls.length->∀ (K:Bool->Option Bool),eqLs ls (xs.drop k) (ys.drop k) K=some r->∃ q,K q=some r∧(Op.eqFields (d+1) us.toArray vs.toArray fs).run P w=.ok q w
 | [],k,ls,hc,xs,ys,us,vs,r,hx,hy,hlx,hly,K,hk=>by
  cases hc
  exact ⟨true,by simpa [eqLs] using hk,rfl⟩
 | f :: fs,k,ls,hc,xs,ys,us,vs,r,hx,hy,hlx,hly,K,hk=>by
  unfold eqC at hc
  obtain ⟨hcc,hc⟩:=kac hc
  simp only [Bool.and_eq_true] at hcc
  have ho:f.offset=k:=Nat.eq_of_beq_eq_true hcc.1
  have hn : f.name ≠ "_" := by simpa using hcc.2
  have main:∀ (l:Lf) (ls':List Lf),ls=l :: ls'->∃ x xs' y ys' u v,xs.drop k=x :: xs'∧ys.drop k=y :: ys'∧us[k]? = some u∧vs[k]? = some v∧RepX g x u∧RepX g y v ∧
   xs.drop (k+1)=xs'∧ys.drop (k+1)=ys'∧kaR g (xs.drop (k+1)) (us.drop (k+1))∧kaR g (ys.drop (k+1)) (vs.drop (k+1))∧(xs.drop (k+1)).length=ls'.length∧(ys.drop (k+1)).length=ls'.length:=fun l ls' hl=>by
   subst hl
   cases hxs:xs.drop k with
   | nil=>rw [hxs] at hlx;cases hlx
   | cons x xs' =>
    cases hys:ys.drop k with
    | nil=>rw [hys] at hly;cases hly
    | cons y ys' =>
     cases hus:us.drop k with
     | nil=>rw [hxs,hus] at hx;cases hx.1
     | cons u us' =>
      cases hvs:vs.drop k with
      | nil=>rw [hys,hvs] at hy;cases hy.1
      | cons v vs' =>
       obtain ⟨_,h2⟩:=kfu hxs
       obtain ⟨_,h3⟩:=kfu hys
       obtain ⟨h4,h5⟩:=kfu hus
       obtain ⟨h6,h7⟩:=kfu hvs
       rw [hxs,hus] at hx
       rw [hys,hvs] at hy
       rw [hxs] at hlx
       rw [hys] at hly
       refine ⟨x,xs',y,ys',u,v,rfl,rfl,h4,h6,hx.head.1,hy.head.1,h2,h3,?_,?_,?_,?_⟩
       · rw [h2,h5];exact hx.head.2
       · rw [h3,h7];exact hy.head.2
       · rw [h2];simpa using hlx
       · rw [h3];simpa using hly
  split at hc
  · rename_i kk ls' hd hls
    cases hc
    obtain ⟨x,xs',y,ys',u,v,hxs,hys,hu,hv,hxu,hyv,hx1,hy1,hxr,hyr,hl1,hl2⟩:=main _ _ rfl
    rw [hxs,hys] at hk
    unfold eqLs at hk
    obtain ⟨n1,e1,hk⟩:=kaS hk
    obtain ⟨n2,e2,hk⟩:=kaS hk
    have hu1:u=.int kk n1:=by have:=hxu.toD_eq e1;cases this;rfl
    have hv1:v=.int kk n2:=by have:=hyv.toD_eq e2;cases this;rfl
    rw [<- hx1,<- hy1] at hk
    obtain ⟨q,hq,hrun⟩:=kfv (w:=w) (d:=d) fs (k+1) ls' hls xs ys us vs r hxr hyr hl1 hl2 _ hk
    exact ⟨_,hq,klS ho hn hd rfl hu hv (by rw [hu1,hv1];exact run_equalIn_int w d _ _ _ _ _ hd) hrun⟩
  · rename_i ls' hd hls
    cases hc
    obtain ⟨x,xs',y,ys',u,v,hxs,hys,hu,hv,hxu,hyv,hx1,hy1,hxr,hyr,hl1,hl2⟩:=main _ _ rfl
    rw [hxs,hys] at hk
    unfold eqLs at hk
    obtain ⟨n1,e1,hk⟩:=kbg hk
    obtain ⟨n2,e2,hk⟩:=kbg hk
    have hu1:u=.bool n1:=by have:=hxu.toD_eq e1;cases this;rfl
    have hv1:v=.bool n2:=by have:=hyv.toD_eq e2;cases this;rfl
    rw [<- hx1,<- hy1] at hk
    obtain ⟨q,hq,hrun⟩:=kfv (w:=w) (d:=d) fs (k+1) ls' hls xs ys us vs r hxr hyr hl1 hl2 _ hk
    exact ⟨_,hq,klS ho hn hd rfl hu hv (by rw [hu1,hv1];exact run_equalIn_bool' w d _ _ _ hd) hrun⟩
  · rename_i ls' hd hls
    cases hc
    obtain ⟨x,xs',y,ys',u,v,hxs,hys,hu,hv,hxu,hyv,hx1,hy1,hxr,hyr,hl1,hl2⟩:=main _ _ rfl
    rw [hxs,hys] at hk
    unfold eqLs at hk
    obtain ⟨n1,e1,hk⟩:=kbh hk
    obtain ⟨n2,e2,hk⟩:=kbh hk
    have hu1:u=.string n1:=by have:=hxu.toD_eq e1;cases this;rfl
    have hv1:v=.string n2:=by have:=hyv.toD_eq e2;cases this;rfl
    rw [<- hx1,<- hy1] at hk
    obtain ⟨q,hq,hrun⟩:=kfv (w:=w) (d:=d) fs (k+1) ls' hls xs ys us vs r hxr hyr hl1 hl2 _ hk
    exact ⟨_,hq,klS ho hn hd rfl hu hv (by rw [hu1,hv1,run_equalIn_string w d _ _ _ hd,kdR]) hrun⟩
  · cases hc
theorem kDI (h:Rep N g vw a) {neg:Bool} {t ty:TypeId} {x y:Operand} {fs:Array Field} (ht:P.underlying t=some (.struct fs)) (hs:P.stoodInHeld t=false) (hm:P.eqGuardType P.depth t=false) {ls:List Lf} (hls:eqC P 0 fs.toList=some ls)
 (ho:o.op=.binOp (if neg then .neq else .eql) t x y ty) {xs ys:List X} (hx:RepV g (.agg xs) (a.eval x)) (hy:RepV g (.agg ys) (a.eval y)) (h1:xs.length=ls.length) (h2:ys.length=ls.length) {q:Bool}
 (hk:eqLs (α:=Bool) ls xs ys some=some q):OpOk P o a g (.inl ⟨dv (.bool (cond neg (!q) q)),[],[],[]⟩):=by
 generalize hxv:a.eval x=u at hx
 generalize hyv:a.eval y=v at hy
 cases hx with
 | agg _ us hlx hrx =>
  cases hy with
  | agg _ vs hly hry =>
   have hfo:P.fieldsOf t=fs:=by unfold Program.fieldsOf;rw [ht]
   obtain ⟨q',hq',hrun⟩:=kfv (P:=P) (g:=g) (w:=g.w) (d:=9998) fs.toList 0 ls hls xs ys us vs q ⟨hlx,hrx⟩ ⟨hly,hry⟩ h1 h2 some hk
   cases hq'
   have he:(Op.equalIn 10000 t (.agg us.toArray) (.agg vs.toArray)).run P g.w=.ok q g.w:=by
    rw [run_equalIn_struct g.w 9999 t _ _ (by rw [hfo];exact ht) hs,hfo]
    exact hrun
   refine OpOk.pure h (v:=.bool (cond neg (!q) q)) ?_ (.of_d (.bool _))
   simp only [execOp,ho,hxv,hyv]
   rw [Sem.run_bind,Sem.run_bind,run_eqGuard_agg g.w _ t x y _ _ hm,Result.andThen_ok]
   cases neg
   · show ((Go.binOp .eql t _ _).run P g.w).andThen _=_
     rw [run_eql_struct,he]
     rfl
   · show ((Go.binOp .neq t _ _).run P g.w).andThen _=_
     rw [run_neq_struct,he]
     rfl
end
end Go.Proofs.YtaphnbaiamnfpaaGreatDoor.Ps
