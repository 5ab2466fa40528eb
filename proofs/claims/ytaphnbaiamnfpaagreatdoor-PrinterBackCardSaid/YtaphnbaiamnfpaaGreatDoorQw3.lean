/- The library of this program for the evaluator, and that what it says holds. -/
import Derived.Test.YtaphnbaiamnfpaaGreatDoorQw1
import Derived.Test.YtaphnbaiamnfpaaGreatDoorPw2
import Derived.Test.YtaphnbaiamnfpaaGreatDoorPu1
namespace Go.Proofs.YtaphnbaiamnfpaaGreatDoor.Ps
set_option linter.unusedVariables false
set_option linter.unusedSimpArgs false
set_option maxRecDepth 100000
open Go Go.RowKit Go.Proofs
abbrev R (v:V):Out:=⟨true,v,.junk,[],0⟩
def kFd (x:V) (sep:ByteArray):Option Out :=
 kfo 1 x fun rs=>(kdq rs).bind fun l =>
  cond (Nat.ble l.length 140737488355328&&Nat.ble (Lib.join (l.map (·.data.toList)) sep.data.toList).length 140737488355328) (some (R (dv (.str (kkT l sep))))) none
def libC (f:FuncId) (args:List V):Option Out :=
 match args with
 | [x]=>cond (Nat.beq f 56) (gInt .i64 x fun n=>cond (decide (-9223372036854775808<=n)&&decide (n<=9223372036854775807)) (some (R (dv (.str ⟨(Lib.itoa n).toArray⟩)))) none) none
 | [x,y]=>cond (Nat.beq f 122) (gStr x fun s=>gStr y fun t=>cond (Nat.blt s.size 4294967281) (some (R (dv (.bool (Lib.contains s.data.toList t.data.toList))))) none)
  (cond (Nat.beq f 136) (gStr x fun s=>gInt .u8 y fun c=>some (R (dv (.int .i64 (Lib.indexByte s.data.toList c.toNat.toUInt8)))))
   (cond (Nat.beq f 54) (gStr y fun sep=>kFd x sep) none))
 | _=>none
def kFe (y:V) (rs:List (List D)):Option Out :=
 gStr y fun s=>cond (Nat.ble (rs.length+s.size) 140737488355328) (some ⟨true,.tup [i64 s.size,dv .nilI],.junk,[bRow (rs++kay s.data.toList)],1⟩) none
def strC (rs:List (List D)):Option Out :=
 (keG rs).bind fun l=>cond (!l.isEmpty) (some ⟨true,dv (.str ⟨l.toArray⟩),.junk,[[.slf 0,.d .junk]],0⟩) none
def libB (f:FuncId) (args:List V) (rs:List (List D)):Option Out :=
 match args with
 | [.one (.ptr 0 0)]=>cond (Nat.beq f 60) (strC rs) none
 | [.one (.ptr 0 0),y]=>cond (Nat.beq f 53) (kFe y rs) none
 | _=>none
def libV (Γ:SemL):SemL:=fun f args rows =>
 match rows with
 | []=>libC f args
 | [(sh,[.slf 0,.own 0 e sz rs])]=>cond (Nat.beq e 5&&Nat.beq sz 1) (libB f args rs) none
 | _=>none
abbrev kk4:=prog
def Ak (k:Nat):Bool->SemL:=AA kk4 libV shp rc k
theorem kBo {w0:World} (hs:Sane w0) {f:FuncId} {args:List V} {o:Out} (h:libC f args=some o):kdT Tryz.prog w0 f args [] o:=by
 unfold libC at h
 split at h
 · rename_i x
   obtain ⟨hf2,h2⟩:=kac h
   clear h
   obtain rfl:=Nat.eq_of_beq_eq_true hf2
   obtain ⟨n,rfl,h⟩:=kaS h2
   obtain ⟨hc,h⟩:=kac h
   rw [Bool.and_eq_true] at hc
   cases h
   exact kAR hs n (of_decide_eq_true hc.1) (of_decide_eq_true hc.2)
 · rename_i x y
   cases hf:Nat.beq f 122 with
   | true =>
    obtain rfl:=Nat.eq_of_beq_eq_true hf
    rw [hf,cond_true] at h
    obtain ⟨s,rfl,h2⟩:=kbh h
    clear h
    obtain ⟨t,rfl,h⟩:=kbh h2
    clear h2
    obtain ⟨hc,h⟩:=kac h
    cases h
    exact klY hs s t (Nat.le_of_ble_eq_true hc)
   | false =>
    rw [hf,cond_false] at h
    cases hf3:Nat.beq f 136 with
    | true =>
     obtain rfl:=Nat.eq_of_beq_eq_true hf3
     rw [hf3,cond_true] at h
     obtain ⟨s,rfl,h2⟩:=kbh h
     clear h
     obtain ⟨c,rfl,h⟩:=kaS h2
     cases h
     exact kkS s c
    | false =>
     rw [hf3,cond_false] at h
     obtain ⟨hf2,h2⟩:=kac h
     clear h hf hf3
     obtain rfl:=Nat.eq_of_beq_eq_true hf2
     obtain ⟨sep,rfl,h⟩:=kbh h2
     unfold kFd at h
     obtain ⟨rs,h,hx⟩:=kcn h
     cases ht:kdq rs with
     | none=>rw [ht] at h;cases h
     | some l =>
      rw [ht,Option.bind_some] at h
      obtain ⟨hc,h⟩:=kac h
      rw [Bool.and_eq_true] at hc
      cases h
      exact kAS x rs l sep (fun g u hu=>RepV.list hx hu) ht (Nat.le_of_ble_eq_true hc.1) (Nat.le_of_ble_eq_true hc.2)
 · cases h
theorem kBp {w0:World} {f:FuncId} {args:List V} {sh:List Lf} {rs:List (List D)} {o:Out} (h:libB f args rs=some o):kdT Tryz.prog w0 f args [(sh,bRow rs)] o:=by
 unfold libB at h
 split at h
 · obtain ⟨hf2,h2⟩:=kac h
   clear h
   obtain rfl:=Nat.eq_of_beq_eq_true hf2
   unfold strC at h2
   cases ht:keG rs with
   | none=>rw [ht] at h2;cases h2
   | some l =>
    rw [ht,Option.bind_some] at h2
    obtain ⟨hc,h⟩:=kac h2
    cases h
    exact kDS sh rs l ht (by intro e;rw [e] at hc;cases hc)
 · rename_i y
   obtain ⟨hf2,h2⟩:=kac h
   clear h
   obtain rfl:=Nat.eq_of_beq_eq_true hf2
   unfold kFe at h2
   obtain ⟨s,rfl,h⟩:=kbh h2
   obtain ⟨hc,h⟩:=kac h
   cases h
   exact kAQ sh rs s (Nat.le_of_ble_eq_true hc)
 · cases h
theorem kBq {w0:World} (hs:Sane w0) (Γ:SemL):keY Tryz.prog w0 (libV Γ):=by
 intro f args rows o h
 unfold libV at h
 split at h
 · exact kBo hs h
 · obtain ⟨hc,h⟩:=kac h
   rw [Bool.and_eq_true] at hc
   obtain rfl:=Nat.eq_of_beq_eq_true hc.1
   obtain rfl:=Nat.eq_of_beq_eq_true hc.2
   exact kBp h
 · cases h
theorem khX {α:Type}:∀ (L:List (Nat × α)) (f:Nat) (fn:α),kpJ f L=some fn->(f,fn)∈L
 | [],f,fn,h=>by cases h
 | (g,y) :: r,f,fn,h=>by
  unfold kpJ at h
  cases hb:Nat.beq g f with
  | true =>
   rw [hb] at h
   obtain rfl:=Nat.eq_of_beq_eq_true hb
   cases h
   exact List.mem_cons_self ..
  | false=>rw [hb] at h;exact List.mem_cons_of_mem _ (khX r f fn h)
theorem kuV:∀ f fn,kk4 f=some fn->∃ F lv,Tryz.prog.funcs[f]? = some F∧kaf Tryz.prog lv F=some fn:=fun f fn h=>kBn _ (khX _ _ _ h)
theorem kFf:RecOk Tryz.prog rc:=recOk fun f t h=>by
 have:=khX _ _ _ h
 simp only [rcL,List.mem_cons,List.not_mem_nil,or_false,Prod.mk.injEq] at this
 exact this
theorem mixed:Tryz.prog.follows .mixedOrders=true:=by kernel_rfl
theorem Ak_ok {w0:World} (hs:Sane w0) (k:Nat):keY Tryz.prog w0 (Ak k false):=(kDP kFf mixed kuV (fun Γ _=>kBq hs Γ) k).1
end Go.Proofs.YtaphnbaiamnfpaaGreatDoor.Ps
