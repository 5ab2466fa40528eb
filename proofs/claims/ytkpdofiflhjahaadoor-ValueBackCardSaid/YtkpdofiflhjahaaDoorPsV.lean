/- Code whose joins are sealed: the same meaning, stopped at each join, for the kernel's sake. -/
import Derived.Test.YtkpdofiflhjahaaDoorPsC
namespace Go.Proofs.YtkpdofiflhjahaaDoor.Ps
set_option linter.unusedVariables false
open Go Go.RowKit

section
variable {α : Type} (Γ : SemL) (shp : FuncId → Sh)
def joinJ (J : SCode → St → (SExit → St → Option α) → Option α) (b : SCode) (s : St) (K : SExit → St → Option α) : Option α :=
  match b with
  | .ret => K .ret s
  | b => J b s K
/-- As codeK; a piece behind a join is left to J. -/
def codeJ (J : SCode → St → (SExit → St → Option α) → Option α) (L : List Nat → SCode → St → (SExit → St → Option α) → Option α) : SCode → St → (SExit → St → Option α) → Option α
  | .skip, s, K => K .norm s
  | .region false ops, s, K => opsT Γ shp ops 0 s (fun s => K .norm s) (fun d s => K (.pan d) s)
  | .region true ops, s, K => cond (aftersOk (ops.map (·.after)) 0) (opsD Γ shp (aheadOf (ops.map (·.after))) ops 0 s [] none (fun s => K .norm s) (fun d s => K (.pan d) s)) none
  | .seq none a b, s, K => codeJ J L a s (kSeq none (fun s K => codeJ J L b s K) K)
  | .seq (some lo) a b, s, K => codeJ J L a s (kSeq (some lo) (fun s K => joinJ J b s K) K)
  | .cond c a b, s, K => gBool (ev (fun t => look t s.env) c) fun t => cond t (codeJ J L a s K) (codeJ J L b s K)
  | .block id c, s, K => codeJ J L c s (kBlk id K)
  | .loop live c, s, K => L live c (s.norm live) K
  | .exit id, s, K => K (.exit id) s
  | .ret, s, K => K .ret s
theorem joinJ_eq {J : SCode → St → (SExit → St → Option α) → Option α} {L : List Nat → SCode → St → (SExit → St → Option α) → Option α} (hJ : ∀ c s K, J c s K = codeK Γ shp L c s K) (b : SCode) (s : St) (K : SExit → St → Option α) :
    joinJ J b s K = codeK Γ shp L b s K := by
  unfold joinJ
  split
  · unfold codeK; rfl
  · exact hJ _ _ _
theorem codeJ_eq {J : SCode → St → (SExit → St → Option α) → Option α} {L : List Nat → SCode → St → (SExit → St → Option α) → Option α} (hJ : ∀ c s K, J c s K = codeK Γ shp L c s K) :
    ∀ (c : SCode) (s : St) (K : SExit → St → Option α), codeJ Γ shp J L c s K = codeK Γ shp L c s K
  | .skip, s, K => by unfold codeJ codeK; rfl
  | .region false ops, s, K => by unfold codeJ codeK; rfl
  | .region true ops, s, K => by unfold codeJ codeK; rfl
  | .seq none a b, s, K => by
    unfold codeJ codeK
    rw [codeJ_eq hJ a]
    have : (fun s K => codeJ Γ shp J L b s K) = fun s K => codeK Γ shp L b s K := by funext s K; exact codeJ_eq hJ b s K
    rw [this]
  | .seq (some lo) a b, s, K => by
    unfold codeJ codeK
    rw [codeJ_eq hJ a]
    have : (fun s K => joinJ J b s K) = fun s K => codeK Γ shp L b s K := by funext s K; exact joinJ_eq Γ shp hJ b s K
    rw [this]
  | .cond c a b, s, K => by
    unfold codeJ codeK
    have : (fun t => cond t (codeJ Γ shp J L a s K) (codeJ Γ shp J L b s K)) = fun t => cond t (codeK Γ shp L a s K) (codeK Γ shp L b s K) := by funext t; rw [codeJ_eq hJ a, codeJ_eq hJ b]
    rw [this]
  | .block id c, s, K => by
    unfold codeJ codeK
    exact codeJ_eq hJ c s _
  | .loop live c, s, K => by unfold codeJ codeK; rfl
  | .exit id, s, K => by unfold codeJ codeK; rfl
  | .ret, s, K => by unfold codeJ codeK; rfl
end
theorem Jn_ex (Γ : SemL) (shp : FuncId → Sh) : ∃ J : Nat → SCode → St → (SExit → St → Option Out) → Option Out, ∀ n c s K, J n c s K = codeK Γ shp (loopK Γ shp n) c s K := ⟨_, fun _ _ _ _ => rfl⟩
/-- A piece behind a join: what it means is sealed. -/
noncomputable def Jn (Γ : SemL) (shp : FuncId → Sh) : Nat → SCode → St → (SExit → St → Option Out) → Option Out := Classical.choose (Jn_ex Γ shp)
theorem Jn_step (Γ : SemL) (shp : FuncId → Sh) (n : Nat) (c : SCode) (s : St) (K : SExit → St → Option Out) : Jn Γ shp n c s K = codeJ Γ shp (Jn Γ shp n) (loopK Γ shp n) c s K :=
  (Classical.choose_spec (Jn_ex Γ shp) n c s K).trans (codeJ_eq Γ shp (Classical.choose_spec (Jn_ex Γ shp) n) c s K).symm
theorem loop_step (Γ : SemL) (shp : FuncId → Sh) (n : Nat) (live : List Nat) (c : SCode) (s : St) (K : SExit → St → Option Out) :
    loopK Γ shp (n + 1) live c s K = codeJ Γ shp (Jn Γ shp n) (loopK Γ shp n) c s (kLoop (loopK Γ shp n) live c K) :=
  (show loopK Γ shp (n + 1) live c s K = codeK Γ shp (loopK Γ shp n) c s (kLoop (loopK Γ shp n) live c K) from rfl).trans (codeJ_eq Γ shp (Classical.choose_spec (Jn_ex Γ shp) n) c s _).symm
theorem run_step (Γ : SemL) (shp : FuncId → Sh) (ow : Bool) (fn : SFunc) (n : Nat) (args : List V) (rows : List (List Lf × List D)) :
    runF Γ shp ow fn n args rows = codeJ Γ shp (Jn Γ shp n) (loopK Γ shp n) fn.body { env := begE 0 args, heap := begB 0 rows, live := [], nb := rows.length, nk := 0, np := rows.length } (finK ow fn.results rows.length) :=
  (codeJ_eq Γ shp (Classical.choose_spec (Jn_ex Γ shp) n) _ _ _).symm
end Go.Proofs.YtkpdofiflhjahaaDoor.Ps
