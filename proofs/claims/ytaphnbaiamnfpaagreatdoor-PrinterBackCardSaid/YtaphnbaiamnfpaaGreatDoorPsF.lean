/- A function's operations, put into the small language; the operations that only compute. -/
import Derived.Test.YtaphnbaiamnfpaaGreatDoorPsE
namespace Go.Proofs.YtaphnbaiamnfpaaGreatDoor.Ps
set_option linter.unusedVariables false
set_option linter.unusedSimpArgs false
open Go Go.RowKit
section
variable (P:Program)
def szOf (t:TypeId):Nat:=match P.info? t with | some i=>i.size | none=>0
def lay:Nat->TypeId->List Nat
 | 0,_=>[]
 | d+1,t =>
  match P.underlying t with
  | some (.slice e)=>[szOf P e]
  | some (.struct fs)=>fs.toList.flatMap fun f=>lay d f.type
  | some (.array n e)=>(List.replicate n (lay d e)).flatten
  | _=>[0]
def shT:Nat->TypeId->List Lf
 | 0,_=>[]
 | d+1,t =>
  match P.underlying t with
  | some .bool=>[.bool]
  | some (.int k)=>[.int k]
  | some .string=>[.str]
  | some (.slice e)=>[.lst (szOf P e)]
  | some (.struct fs)=>fs.toList.flatMap fun f=>shT d f.type
  | some (.array n e)=>(List.replicate n (shT d e)).flatten
  | _=>[.any]
def cX (sz:Nat):Value->Option X
 | .bool b=>some (.d (.bool b))
 | .int k n=>some (.d (.int k n))
 | .string s=>some (.d (.str s))
 | .slice none 0 0=>some (.nilL sz)
 | .nilIface=>some (.d .nilI)
 | .pointer none=>some (.d .nilP)
 | v=>cond v.oneCell' (some (.d .junk)) none
def cXs:List Nat->List Value->Option (List X)
 | _,[]=>some []
 | ss,v :: vs=>match cX (ss.headD 0) v,cXs ss.tail vs with
  | some x,some xs=>some (x :: xs)
  | _,_=>none
def cV (ss:List Nat):Value->Option V
 | .agg cs=>(cXs ss cs.toList).map .agg
 | v=>(cX (ss.headD 0) v).map .one
def arg (t:TypeId):Operand->Option SArg
 | .tmp n=>some (.t n)
 | .const v=>(cV (lay P 8 t) v).map .k
 | .func f=>some (.k (.one (.fn f [])))
 | .global _=>none
def args:List TypeId->List Operand->Option (List SArg)
 | _,[]=>some []
 | ts,x :: xs=>match arg P (ts.headD 0) x,args ts.tail xs with
  | some y,some ys=>some (y :: ys)
  | _,_=>none
def zrow (t:TypeId):Option (List X) :=
 match P.info? t with
 | some i=>match i.zero with
  | some z=>cXs (lay P 8 t) z.cells.toList
  | none=>none
 | none=>none
def isAg:TypeDesc->Bool
 | .struct _ | .array _ _=>true
 | _=>false
end
section
variable {P:Program} {g:G}
theorem kyc {sz:Nat} {v:Value} {x:X} (h:cX sz v=some x):RepX g x v:=by
 unfold cX at h
 split at h
 · cases h;exact .d _ _ (.bool _)
 · cases h;exact .d _ _ (.int _ _)
 · cases h;exact .d _ _ (.str _)
 · cases h;exact .nilL _
 · cases h;exact .d _ _ .nilI
 · cases h;exact .d _ _ .nilP
 · obtain ⟨h1,h2⟩:=kac h
   cases h2
   exact .d _ _ (.junk _ h1)
theorem klP:∀ {vs:List Value} {ss:List Nat} {xs:List X},cXs ss vs=some xs->kaR g xs vs
 | [],ss,xs,h=>by cases h;exact .nil g
 | v :: vs,ss,xs,h=>by
  unfold cXs at h
  split at h
  · rename_i x ys h1 h2
    cases h
    exact .cons (kyc h1) (klP h2)
  · cases h
theorem kDy {ss:List Nat} {v:Value} {x:V} (h:cV ss v=some x):RepV g x v:=by
 unfold cV at h
 split at h
 · rename_i cs
   cases hc:cXs ss cs.toList with
   | none=>rw [hc] at h;cases h
   | some xs =>
    rw [hc] at h
    cases h
    obtain ⟨h1,h2⟩:=klP (g:=g) hc
    have:=RepV.agg (g:=g) xs cs.toList h1 h2
    simpa using this
 · cases hc:cX (ss.headD 0) v with
   | none=>rw [hc] at h;cases h
   | some y =>
    rw [hc] at h
    cases h
    exact .one _ _ (kyc hc)
theorem kaT {N:Nat} {vw:View} {a:Act} (h:Rep N g vw a) {t:TypeId} {x:Operand} {y:SArg} (hx:arg P t x=some y):RepV g (ev vw.env y) (a.eval x):=by
 unfold arg at hx
 split at hx
 · cases hx
   exact h.env _
 · rename_i v
   cases hc:cV (lay P 8 t) v with
   | none=>rw [hc] at hx;cases hx
   | some z =>
    rw [hc] at hx
    cases hx
    exact kDy hc
 · cases hx
   exact .one _ _ (.fn _ [] [] rfl (fun j hj=>absurd hj (by simp)))
 · cases hx
def ka7 (g:G) (xs:List V) (vs:List Value):Prop:=vs.length=xs.length∧∀ j,j < xs.length->RepV g (xs.getD j .junk) (vs.getD j undef)
theorem ka7.nil (g:G):ka7 g [] []:=⟨rfl,fun j hj=>absurd hj (by simp)⟩
theorem ka7.cons {g:G} {x:V} {v:Value} {cs:List V} {vs:List Value} (h:RepV g x v) (hs:ka7 g cs vs):ka7 g (x :: cs) (v :: vs):=by
 refine ⟨by simp [hs.1],fun j hj=>?_⟩
 cases j with
 | zero=>exact h
 | succ j=>exact hs.2 j (by simpa using hj)
theorem ka7.head {g:G} {x:V} {v:Value} {cs:List V} {vs:List Value} (h:ka7 g (x :: cs) (v :: vs)):RepV g x v∧ka7 g cs vs :=
 ⟨h.2 0 (by simp),by simpa using h.1,fun j hj=>h.2 (j+1) (by simpa using hj)⟩
theorem kfs {N:Nat} {vw:View} {a:Act} (h:Rep N g vw a):∀ {xs:List Operand} {ts:List TypeId} {ys:List SArg},args P ts xs=some ys->ka7 g (evL vw.env ys) (xs.map a.eval)
 | [],ts,ys,hx=>by cases hx;exact .nil g
 | x :: xs,ts,ys,hx=>by
  unfold args at hx
  split at hx
  · rename_i y zs h1 h2
    cases hx
    exact .cons (kaT h h1) (kfs h h2)
  · cases hx
theorem kns {t:TypeId} {row:List X} (h:zrow P t=some row):∃ i z,P.info? t=some i∧i.zero=some z∧kaR g row z.cells.toList:=by
 unfold zrow at h
 split at h
 · rename_i i hi
   split at h
   · rename_i z hz
     exact ⟨i,z,hi,hz,klP h⟩
   · cases h
 · cases h
end
abbrev Res:=Patch ⊕ (D × List (Nat × Blk))
def OpOk (P:Program) (o:Oper) (a:Act) (g:G):Res->Prop
 | .inl p=>∀ (K:Act->World->Prop) (Q:Exit->Act->World->Prop),(∀ g' v,RepP g g' p v->K (a.put o.dst v) g'.w)->o.wp P a g.w K Q
 | .inr (d,hw)=>∀ (K:Act->World->Prop) (Q:Exit->Act->World->Prop),(∀ g' u,RepP g g' ⟨.junk,hw,[],[]⟩ undef->RepD g'.w g'.φ d u->Q (.panic [{ v:=u,recovered:=false }]) a g'.w)->o.wp P a g.w K Q
theorem OpOk.pure {P:Program} {o:Oper} {a:Act} {N:Nat} {g:G} {vw:View} (h:Rep N g vw a) {x:V} {v:Value}
 (hrun:(execOp a.eval o).run P g.w=.ok (.value v) g.w) (hv:RepV g x v):OpOk P o a g (.inl ⟨x,[],[],[]⟩) :=
 fun K Q hK=>kdl hrun (hK g v (RepP.pure h hv))
theorem kjs:∀ a b:List UInt8,beqL a b=true ↔ a=b
 | [],[]=>by simp [beqL]
 | [],_ :: _=>by simp [beqL]
 | _ :: _,[]=>by simp [beqL]
 | x :: xs,y :: ys=>by
  simp only [beqL]
  cases h:Nat.beq x.toNat y.toNat
  · have:x ≠ y:=fun e=>by subst e;simp at h
    simp [this]
  · have:x=y:=UInt8.toNat_inj.1 (Nat.eq_of_beq_eq_true h)
    simp [this,kjs xs ys]
theorem klQ (a:ByteArray) (n i:Nat) (r:List UInt8) (hn:n=a.size - i) (hi:i<=a.size):ByteArray.toList.loop a i r=r.reverse++a.data.toList.drop i:=by
 induction n generalizing i r with
 | zero =>
  unfold ByteArray.toList.loop
  have e:i=a.size:=by omega
  rw [if_neg (by omega),List.drop_eq_nil_of_le (by rw [e,Array.length_toList];exact Nat.le_refl _),List.append_nil]
 | succ n ih =>
  unfold ByteArray.toList.loop
  have hlt:i < a.size:=by omega
  have hl:i < a.data.toList.length:=by rw [Array.length_toList];exact hlt
  rw [if_pos hlt,ih (i+1) _ (by omega) (by omega),List.drop_eq_getElem_cons hl]
  have:a.get! i=a.data.toList[i]:=by
   have h2:i < a.data.size:=hlt
   show a.data[i]! = _
   rw [getElem!_pos a.data i h2]
   rfl
  rw [this]
  simp
theorem kdm (a:ByteArray):a.toList=a.data.toList:=by
 unfold ByteArray.toList
 rw [klQ a a.size 0 [] (by omega) (by omega)]
 simp
theorem kdR (a b:ByteArray):(a.toList==b.toList)=sbeq a b:=by
 rw [kdm,kdm,Bool.eq_iff_iff,beq_iff_eq]
 exact (kjs _ _).symm
theorem kef (a b:ByteArray):Op.bytesLess a.toList b.toList=sless a b:=by
 rw [kdm,kdm];rfl
section
variable {P:Program} {o:Oper} {a:Act} {N:Nat} {g:G} {vw:View}
theorem kyd (h:Rep N g vw a) {x:Operand} (ho:o.op=.move x∨o.op=.assign x) {y:SArg} {t:TypeId} (hx:arg P t x=some y):OpOk P o a g (.inl ⟨ev vw.env y,[],[],[]⟩) :=
 OpOk.pure h (by rcases ho with ho | ho<;>(simp only [execOp,ho];rfl)) (kaT h hx)
theorem kAy (h:Rep N g vw a) {c x z:Operand} (ho:o.op=.pick c x z) {c' x' z':SArg} {t1 t2 t3:TypeId} (hc:arg P t1 c=some c') (hx:arg P t2 x=some x') (hz:arg P t3 z=some z') (b:Bool)
 (hb:ev vw.env c'=dv (.bool b)):OpOk P o a g (.inl ⟨cond b (ev vw.env x') (ev vw.env z'),[],[],[]⟩):=by
 have e:=kaT h hc
 rw [hb] at e
 have e1:=e.bool_eq
 refine OpOk.pure h (v:=if b then a.eval x else a.eval z) ?_ ?_
 · simp only [execOp,ho,e1,asBool]
   rfl
 · cases b
   · exact kaT h hz
   · exact kaT h hx
theorem kAz (h:Rep N g vw a) {op:BinOp} {t ty:TypeId} {x y:Operand} {k:IntKind} (ho:o.op=.binOp op t x y ty) {a' b':Int} (hx:a.eval x=.int k a') (hy:a.eval y=.int k b') {d:D}
 (hd:kky (α:=D) k op a' b' some=some d):OpOk P o a g (.inl ⟨dv d,[],[],[]⟩):=by
 unfold kky at hd
 have key:∀ v,RepD g.w g.φ d v->(Go.binOp op t (.int k a') (.int k b')).run P g.w=.ok v g.w->OpOk P o a g (.inl ⟨dv d,[],[],[]⟩):=fun v hv hr =>
  OpOk.pure h (v:=v) (by
   simp only [execOp,ho,hx,hy]
   have eg:∀ w,(eqGuard op t x y (.int k a') (.int k b')).run P w=.ok () w:=fun w=>by
    unfold eqGuard
    split<;>first | rfl | (simp;done) | (simp_all;done)
   rw [Sem.run_bind,Sem.run_bind,eg,Result.andThen_ok,hr]
   rfl) (.of_d hv)
 split at hd
 · cases hd;exact key _ (.int _ _) (by simp [Go.binOp,Op.intArith])
 · cases hd;exact key _ (.int _ _) (by simp [Go.binOp,Op.intArith])
 · cases hd;exact key _ (.int _ _) (by simp [Go.binOp,Op.intArith])
 · cases hz:decide (b'=0)
   · rw [hz] at hd
     cases hd
     have:b' ≠ 0:=by simpa using hz
     exact key _ (.int _ _) (by simp [Go.binOp,Op.intDiv,this])
   · rw [hz] at hd;cases hd
 · cases hz:decide (b'=0)
   · rw [hz] at hd
     cases hd
     have:b' ≠ 0:=by simpa using hz
     exact key _ (.int _ _) (by simp [Go.binOp,Op.intDiv,this])
   · rw [hz] at hd;cases hd
 · cases hd;exact key _ (.bool _) (by simp [Go.binOp,Op.intCmp])
 · cases hd;exact key _ (.bool _) (by simp [Go.binOp,Op.intCmp])
 · cases hd;exact key _ (.bool _) (by simp [Go.binOp,Op.intCmp])
 · cases hd;exact key _ (.bool _) (by simp [Go.binOp,Op.intCmp])
 · cases hd;exact key _ (.bool _) (by simp [Go.binOp,Op.intCmp])
 · cases hd;exact key _ (.bool _) (by simp [Go.binOp,Op.intCmp])
 · cases hd
end
end Go.Proofs.YtaphnbaiamnfpaaGreatDoor.Ps
