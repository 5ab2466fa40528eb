/- The other operations that only compute. -/
import Derived.Test.YtaphnbaiamnfpaaGreatDoorPsF
import Derived.Laws.Concat
import Derived.Laws.StructEq
import Derived.Laws.BytesString
import Derived.Laws.Build
namespace Go.Proofs.YtaphnbaiamnfpaaGreatDoor.Ps
set_option linter.unusedVariables false
set_option linter.unusedSimpArgs false
open Go Go.RowKit
section
variable {P:Program} {o:Oper} {a:Act} {N:Nat} {g:G} {vw:View}
theorem kda (h:Rep N g vw a) {op:BinOp} {t ty:TypeId} {x y:Operand} (ho:o.op=.binOp op t x y ty) {u v r:Value} (hx:a.eval x=u) (hy:a.eval y=v)
 (hq:eqGuard op t x y u v=pure ()) (hr:(Go.binOp op t u v).run P g.w=.ok r g.w) {d:D} (hv:RepD g.w g.φ d r):OpOk P o a g (.inl ⟨dv d,[],[],[]⟩) :=
 OpOk.pure h (v:=r) (by
  simp only [execOp,ho,hx,hy,hq]
  rw [Sem.run_bind,Sem.run_bind,Sem.run_pure,Result.andThen_ok,hr]
  rfl) (.of_d hv)
theorem kAA (h:Rep N g vw a) {op:BinOp} {t ty:TypeId} {x y:Operand} (ho:o.op=.binOp op t x y ty) {a' b':ByteArray} (hx:a.eval x=.string a') (hy:a.eval y=.string b') {d:D}
 (hd:kkz (α:=D) op a' b' some=some d):OpOk P o a g (.inl ⟨dv d,[],[],[]⟩):=by
 unfold kkz at hd
 split at hd
 · obtain ⟨h1,h2⟩:=kac hd
   cases h2
   refine kda h ho hx hy (eqGuard_at_string _ _ _ _ _ _) (r:=.string (a'++b')) ?_ (.str _)
   rw [binOp_string_add]
   exact run_string_add_sum (P:=P) g.w a' b' (Nat.le_of_ble_eq_true h1)
 · cases hd;exact kda h ho hx hy (eqGuard_at_string _ _ _ _ _ _) (r:=.bool (sbeq a' b')) (by rw [binOp_string_eql,kdR];rfl) (.bool _)
 · cases hd;exact kda h ho hx hy (eqGuard_at_string _ _ _ _ _ _) (r:=.bool (!sbeq a' b')) (by rw [binOp_string_neq,kdR];rfl) (.bool _)
 · cases hd;exact kda h ho hx hy (eqGuard_at_string _ _ _ _ _ _) (r:=.bool (sless a' b')) (by rw [binOp_string_lss,kef];rfl) (.bool _)
 · cases hd;exact kda h ho hx hy (eqGuard_at_string _ _ _ _ _ _) (r:=.bool (sless a' b' || sbeq a' b')) (by simp [Go.binOp,Op.stringOp,kef,kdR]) (.bool _)
 · cases hd;exact kda h ho hx hy (eqGuard_at_string _ _ _ _ _ _) (r:=.bool (!(sless a' b' || sbeq a' b'))) (by simp [Go.binOp,Op.stringOp,kef,kdR]) (.bool _)
 · cases hd;exact kda h ho hx hy (eqGuard_at_string _ _ _ _ _ _) (r:=.bool (!sless a' b')) (by simp [Go.binOp,Op.stringOp,kef]) (.bool _)
 · cases hd
theorem kAB (h:Rep N g vw a) {op:BinOp} {t ty:TypeId} {x y:Operand} (ht:P.underlying t=some .bool) (ho:o.op=.binOp op t x y ty) {a' b':Bool} (hx:a.eval x=.bool a') (hy:a.eval y=.bool b') {d:D}
 (hd:kkA (α:=D) op a' b' some=some d):OpOk P o a g (.inl ⟨dv d,[],[],[]⟩):=by
 unfold kkA at hd
 have e:=run_equalIn_bool' (P:=P) g.w 9999 t a' b' ht
 split at hd
 · cases hd;exact kda h ho hx hy (eqGuard_at_bool _ _ _ _ _ _) (r:=.bool (a'==b')) (by simp [Go.binOp,Op.equal,Op.maxDepth,e]) (.bool _)
 · cases hd;exact kda h ho hx hy (eqGuard_at_bool _ _ _ _ _ _) (r:=.bool (!(a'==b'))) (by simp [Go.binOp,Op.equal,Op.maxDepth,e]) (.bool _)
 · cases hd
theorem kq5 {t:TypeId} {ms:Array (String × TypeId)} (ht:P.underlying t=some (.interface ms)) (d:Nat) (w:World):(Op.equalIn (d+1) t .nilIface .nilIface).run P w=.ok true w:=by
 simp only [Op.equalIn,Sem.run_bind,run_underlying ht,Result.andThen_ok]
 rfl
theorem kq6 {t:TypeId} {ms:Array (String × TypeId)} (ht:P.underlying t=some (.interface ms)) (d:Nat) (w:World) (t':TypeId) (v:Value):(Op.equalIn (d+1) t (.iface t' v) .nilIface).run P w=.ok false w:=by
 simp only [Op.equalIn,Sem.run_bind,run_underlying ht,Result.andThen_ok]
 rfl
theorem kq7 (h:Rep N g vw a) {neg:Bool} {t ty:TypeId} {x:Operand} {ms:Array (String × TypeId)} (ht:P.underlying t=some (.interface ms))
 (ho:o.op=.binOp (if neg then .neq else .eql) t x (.const .nilIface) ty) {d:D} (hx:RepD g.w g.φ d (a.eval x)) {b:Bool} (hd:(d=.nilI∧b=!neg)∨(d.isI=true∧b=neg)) :
 OpOk P o a g (.inl ⟨dv (.bool b),[],[],[]⟩):=by
 generalize hv:a.eval x=v at hx
 rcases hd with ⟨rfl,hb⟩ | ⟨h1,hb⟩
 · cases hx
   have e:=kq5 (P:=P) ht 9999 g.w
   subst hb
   cases neg
   · exact kda (v:=.nilIface) h ho hv rfl (eqGuard_nil_constR _ _ _ _) (r:=.bool true) (by simp [Go.binOp,Op.equal,Op.maxDepth,e]) (.bool _)
   · exact kda (v:=.nilIface) h ho hv rfl (eqGuard_nil_constR _ _ _ _) (r:=.bool false) (by simp [Go.binOp,Op.equal,Op.maxDepth,e]) (.bool _)
 · obtain ⟨t',u,rfl⟩:∃ t' u,v=.iface t' u:=by
    rcases D.isI_eq h1 with rfl | ⟨t',row,rfl⟩
    · cases hx;exact ⟨_,_,rfl⟩
    · cases hx;exact ⟨_,_,rfl⟩
   have e:=kq6 (P:=P) ht 9999 g.w t' u
   subst hb
   cases b
   · exact kda (v:=.nilIface) h ho hv rfl (eqGuard_at_iface _ _ _ _ _ _ _) (r:=.bool false) (by simp [Go.binOp,Op.equal,Op.maxDepth,e]) (.bool _)
   · exact kda (v:=.nilIface) h ho hv rfl (eqGuard_at_iface _ _ _ _ _ _ _) (r:=.bool true) (by simp [Go.binOp,Op.equal,Op.maxDepth,e]) (.bool _)
theorem kDz (h:Rep N g vw a) {t:TypeId} {x:Operand} (ho:o.op=.unOp .not t x) {b:Bool} (hx:a.eval x=.bool b):OpOk P o a g (.inl ⟨dv (.bool (!b)),[],[],[]⟩) :=
 OpOk.pure h (v:=.bool (!b)) (by simp [execOp,ho,hx,Op.unary]) (.of_d (.bool _))
theorem kDA (h:Rep N g vw a) {t:TypeId} {x:Operand} {k:IntKind} (ho:o.op=.unOp .neg t x) {b:Int} (hx:a.eval x=.int k b):OpOk P o a g (.inl ⟨dv (.int k (k.wrap (0 - b))),[],[],[]⟩) :=
 OpOk.pure h (v:=.int k (k.wrap (0 - b))) (by simp [execOp,ho,hx,Op.unary,Op.intArith]) (.of_d (.int _ _))
theorem kAC (h:Rep N g vw a) {s t:TypeId} {x:Operand} {k k':IntKind} (hs:P.underlying s=some (.int k)) (ht:P.underlying t=some (.int k')) (ho:o.op=.convert s t x) {b:Int} (hx:a.eval x=.int k b) :
 OpOk P o a g (.inl ⟨dv (.int k' (k'.wrap b)),[],[],[]⟩) :=
 OpOk.pure h (v:=.int k' (k'.wrap b)) (by simp [execOp,ho,hx,Go.convert,run_underlying hs,run_underlying ht,Conv.intToInt]) (.of_d (.int _ _))
theorem kAD (h:Rep N g vw a) {t:TypeId} {x:Operand} (ht:P.underlying t=some .string) (ho:o.op=.call { callee:=.builtin .len,args:=#[x],argTypes:=#[t] }) {b:ByteArray} (hx:a.eval x=.string b) :
 OpOk P o a g (.inl ⟨i64 b.size,[],[],[]⟩) :=
 OpOk.pure h (v:=.int .i64 b.size) (by simp [execOp,ho,hx,resolve,invoke,builtin,Builtin.len_,run_underlying ht,goInt]) (.of_d (.int _ _))
theorem klR (h:Rep N g vw a) {t e:TypeId} {x:Operand} (ht:P.underlying t=some (.slice e)) (ho:o.op=.call { callee:=.builtin .len,args:=#[x],argTypes:=#[t] }) {sz:Nat} {rows:List (List D)} (hx:RepD g.w g.φ (.list sz rows) (a.eval x)) :
 OpOk P o a g (.inl ⟨i64 rows.length,[],[],[]⟩):=by
 obtain ⟨A,c,e1⟩:∃ A c,a.eval x=.slice A rows.length c:=by
  generalize a.eval x=v at hx
  cases hx with
  | nil _ A c=>exact ⟨A,c,rfl⟩
  | list _ _ b off c _ _ _ _ _ _=>exact ⟨_,c,rfl⟩
 exact OpOk.pure h (v:=.int .i64 rows.length) (by simp [execOp,ho,e1,resolve,invoke,builtin,Builtin.len_,run_underlying ht,goInt]) (.of_d (.int _ _))
theorem kq8 (h:Rep N g vw a) {mx:Bool} {ts:Array TypeId} {x y:Operand} (ho:o.op=.call { callee:=.builtin (if mx then .max else .min),args:=#[x,y],argTypes:=ts }) {b c:Int} (hx:a.eval x=.int .i64 b) (hy:a.eval y=.int .i64 c) :
 OpOk P o a g (.inl ⟨dv (.int .i64 (cond mx (if b < c then c else b) (if c < b then c else b))),[],[],[]⟩):=by
 refine OpOk.pure h (v:=.int .i64 (cond mx (if b < c then c else b) (if c < b then c else b))) ?_ (.of_d (.int _ _))
 cases mx
 · simp [execOp,ho,hx,hy,resolve,invoke,builtin,Builtin.min_,Builtin.min2]
 · simp [execOp,ho,hx,hy,resolve,invoke,builtin,Builtin.max_,Builtin.max2]
theorem kDB (h:Rep N g vw a) {t:TypeId} {x i:Operand} (ht:P.underlying t=some .string) (ho:o.op=.index t x i) {s:ByteArray} {n:Int} (hx:a.eval x=.string s) (hi:a.eval i=.int .i64 n) (h0:0<=n) (h1:n < (s.size:Int)) :
 OpOk P o a g (.inl ⟨dv (.int .u8 ((s.get! n.toNat).toNat:Int)),[],[],[]⟩):=by
 have hlt:n.toNat < s.size:=by omega
 have e:s[n.toNat]? = some (s.get! n.toNat):=by
  rw [getElem?_pos s n.toNat hlt]
  congr 1
  show s.data[n.toNat]=s.data[n.toNat]!
  rw [getElem!_pos s.data n.toNat hlt]
 exact OpOk.pure h (v:=.int .u8 ((s.get! n.toNat).toNat:Int)) (by simp [execOp,ho,hx,hi,Instr.index,asIntOf,run_underlying ht,h0,e]) (.of_d (.int _ _))
theorem kDC (h:Rep N g vw a) {x:Operand} {i:Nat} (ho:o.op=.extract x i) {vs:List V} (hx:RepV g (.tup vs) (a.eval x)) (hi:i < vs.length):OpOk P o a g (.inl ⟨vs.getD i .junk,[],[],[]⟩):=by
 generalize he:a.eval x=v at hx
 cases hx with
 | tup _ us hl hr =>
  refine OpOk.pure h (v:=us.getD i undef) ?_ (hr i hi)
  have:us[i]? = some (us.getD i undef):=by
   rw [List.getD_eq_getElem?_getD,List.getElem?_eq_getElem (by omega)]
   rfl
  simp only [execOp,ho,he,Instr.extract]
  simp only [List.getElem?_toArray,this]
  rfl
theorem kDD (h:Rep N g vw a) {f:FuncId} {caps:Array Operand} (ho:o.op=.makeFunc (.func f) #[] caps) {xs:List X} (hx:kaR g xs (caps.map a.eval).toList):OpOk P o a g (.inl ⟨.one (.fn f xs),[],[],[]⟩) :=
 OpOk.pure h (v:=.func (.func f) #[] (caps.map a.eval)) (by simp [execOp,ho,Instr.makeFunc]) (.one _ _ (by
  have:=RepX.fn f xs (caps.map a.eval).toList hx.1 hx.2
  simpa only [Array.toArray_toList] using this))
theorem kDE (h:Rep N g vw a) {t:TypeId} {x:Operand} (ht:P.concrete t=true) (ho:o.op=.makeInterface t x) {cs:List X} (hx:RepV g (.agg cs) (a.eval x)):OpOk P o a g (.inl ⟨dv (.iface t (cs.map X.toD)),[],[],[]⟩):=by
 generalize he:a.eval x=v at hx
 cases hx with
 | agg _ us hl hr =>
  refine OpOk.pure h (v:=.iface t (.agg us.toArray)) ?_ (.of_d (.iface t _ us (by simpa using hl) (fun j hj=>?_)))
  · simp only [execOp,ho,he,Sem.run_bind,run_makeInterface g.w t _ ht]
    rfl
  · have hj':j < cs.length:=by simpa using hj
    have:=(hr j hj').toD
    rw [List.getD_eq_getElem?_getD,List.getElem?_eq_getElem hj'] at this
    unfold dat
    rw [List.getD_eq_getElem?_getD,List.getElem?_map,List.getElem?_eq_getElem hj']
    exact this
theorem kDF (h:Rep N g vw a) {t:TypeId} {x:Operand} {lo hi:Option Operand} (ht:P.underlying t=some .string) (ho:o.op=.slice t x lo hi none) {s:ByteArray} (hx:a.eval x=.string s) {l r:Int}
 (hlo:(lo=none∧l=0)∨∃ y,lo=some y∧a.eval y=.int .i64 l) (hhi:(hi=none∧r=(s.size:Int))∨∃ y,hi=some y∧a.eval y=.int .i64 r) (h0:0<=r) (h1:r<=(s.size:Int)) (h2:0<=l) (h3:l<=r) :
 OpOk P o a g (.inl ⟨dv (.str (s.extract l.toNat r.toNat)),[],[],[]⟩):=by
 refine OpOk.pure h (v:=.string (s.extract l.toNat r.toNat)) ?_ (.of_d (.str _))
 have er:(r.toNat:Int)=r:=Int.toNat_of_nonneg h0
 rcases hlo with ⟨rfl,rfl⟩ | ⟨y,rfl,hy⟩<;>rcases hhi with ⟨rfl,rfl⟩ | ⟨z,rfl,hz⟩ <;>
  simp [execOp,ho,hx, *,Instr.sliceAt,Instr.slice,run_underlying ht,Instr.sliceBounds,Instr.sliceBound,asIntOf]
end
end Go.Proofs.YtaphnbaiamnfpaaGreatDoor.Ps
