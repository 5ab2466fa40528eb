/- What comes back from a call, taken apart. Printed by pack3.py. -/
import Derived.Test.YtkpdofiflhjahaaDoorVb
import Derived.Test.YtkpdofiflhjahaaDoorPsV
namespace Go.Proofs.YtkpdofiflhjahaaDoor.Ps
set_option maxHeartbeats 0
set_option maxRecDepth 100000
set_option linter.unusedVariables false
open Go Go.RowKit
def r_a2IL2 (x : Option Out) (rw : List (List D)) (K : Int → List (List D) → Option Out) : Option Out := Option.bind x fun o => bif Out.ok o then bif V.isAgg 2 (Out.val o) then bif X.isD
  (X.cell (Out.val o) 0) && D.isInt IntKind.i64 (X.dd (X.cell (Out.val o) 0)) then bif X.isD (X.cell (Out.val o) 1) && D.isList 2 (X.dd (X.cell (Out.val o) 1)) then bif Nat.beq (Out.m o) 0 &&
  true then K (D.num (X.dd (X.cell (Out.val o) 0))) (D.rows (X.dd (X.cell (Out.val o) 1))) else none else none else none else none else some (Out.mk false V.junk (Out.pv o) rw 0)
theorem g_a2IL2 (y0 : Int) (y1 : List (List D)) (rw : List (List D)) (K : Int → List (List D) → Option Out) : r_a2IL2 (some (Out.mk true (V.agg [X.d (D.int IntKind.i64 y0), X.d (D.list 2
  y1)]) D.junk [] 0)) rw K = K y0 y1 := rfl
def r_a3IIL3 (x : Option Out) (rw : List (List D)) (K : Int → Int → List (List D) → Option Out) : Option Out := Option.bind x fun o => bif Out.ok o then bif V.isAgg 3 (Out.val o) then bif
  X.isD (X.cell (Out.val o) 0) && D.isInt IntKind.i64 (X.dd (X.cell (Out.val o) 0)) then bif X.isD (X.cell (Out.val o) 1) && D.isInt IntKind.i64 (X.dd (X.cell (Out.val o) 1)) then bif X.isD
  (X.cell (Out.val o) 2) && D.isList 3 (X.dd (X.cell (Out.val o) 2)) then bif Nat.beq (Out.m o) 0 && true then K (D.num (X.dd (X.cell (Out.val o) 0))) (D.num (X.dd (X.cell (Out.val o) 1)))
  (D.rows (X.dd (X.cell (Out.val o) 2))) else none else none else none else none else none else some (Out.mk false V.junk (Out.pv o) rw 0)
theorem g_a3IIL3 (y0 : Int) (y1 : Int) (y2 : List (List D)) (rw : List (List D)) (K : Int → Int → List (List D) → Option Out) : r_a3IIL3 (some (Out.mk true (V.agg [X.d (D.int IntKind.i64 y0),
  X.d (D.int IntKind.i64 y1), X.d (D.list 3 y2)]) D.junk [] 0)) rw K = K y0 y1 y2 := rfl
def r_oB (x : Option Out) (rw : List (List D)) (K : Bool → Option Out) : Option Out := Option.bind x fun o => bif Out.ok o then bif V.isOne (Out.val o) then bif X.isD (X.cell (Out.val o) 0)
  && D.isBool (X.dd (X.cell (Out.val o) 0)) then bif Nat.beq (Out.m o) 0 && true then K (D.bit (X.dd (X.cell (Out.val o) 0))) else none else none else none else some (Out.mk false V.junk
  (Out.pv o) rw 0)
theorem g_oB (y0 : Bool) (rw : List (List D)) (K : Bool → Option Out) : r_oB (some (Out.mk true (V.one (X.d (D.bool y0))) D.junk [] 0)) rw K = K y0 := rfl
def r_oI (x : Option Out) (rw : List (List D)) (K : Int → Option Out) : Option Out := Option.bind x fun o => bif Out.ok o then bif V.isOne (Out.val o) then bif X.isD (X.cell (Out.val o) 0) &&
  D.isInt IntKind.i64 (X.dd (X.cell (Out.val o) 0)) then bif Nat.beq (Out.m o) 0 && true then K (D.num (X.dd (X.cell (Out.val o) 0))) else none else none else none else some (Out.mk false
  V.junk (Out.pv o) rw 0)
theorem g_oI (y0 : Int) (rw : List (List D)) (K : Int → Option Out) : r_oI (some (Out.mk true (V.one (X.d (D.int IntKind.i64 y0))) D.junk [] 0)) rw K = K y0 := rfl
def r_oS (x : Option Out) (rw : List (List D)) (K : ByteArray → Option Out) : Option Out := Option.bind x fun o => bif Out.ok o then bif V.isOne (Out.val o) then bif X.isD (X.cell (Out.val o)
  0) && D.isStr (X.dd (X.cell (Out.val o) 0)) then bif Nat.beq (Out.m o) 0 && true then K (D.bytes (X.dd (X.cell (Out.val o) 0))) else none else none else none else some (Out.mk false V.junk
  (Out.pv o) rw 0)
theorem g_oS (y0 : ByteArray) (rw : List (List D)) (K : ByteArray → Option Out) : r_oS (some (Out.mk true (V.one (X.d (D.str y0))) D.junk [] 0)) rw K = K y0 := rfl
def r_t2a2IL2oB (x : Option Out) (rw : List (List D)) (K : Int → List (List D) → Bool → Option Out) : Option Out := Option.bind x fun o => bif Out.ok o then bif V.isTup 2 (Out.val o) then bif
  V.isAgg 2 (V.comp (Out.val o) 0) then bif X.isD (X.cell (V.comp (Out.val o) 0) 0) && D.isInt IntKind.i64 (X.dd (X.cell (V.comp (Out.val o) 0) 0)) then bif X.isD (X.cell (V.comp (Out.val o)
  0) 1) && D.isList 2 (X.dd (X.cell (V.comp (Out.val o) 0) 1)) then bif V.isOne (V.comp (Out.val o) 1) then bif X.isD (X.cell (V.comp (Out.val o) 1) 0) && D.isBool (X.dd (X.cell (V.comp
  (Out.val o) 1) 0)) then bif Nat.beq (Out.m o) 0 && true then K (D.num (X.dd (X.cell (V.comp (Out.val o) 0) 0))) (D.rows (X.dd (X.cell (V.comp (Out.val o) 0) 1))) (D.bit (X.dd (X.cell
  (V.comp (Out.val o) 1) 0))) else none else none else none else none else none else none else none else some (Out.mk false V.junk (Out.pv o) rw 0)
theorem g_t2a2IL2oB (y0 : Int) (y1 : List (List D)) (y2 : Bool) (rw : List (List D)) (K : Int → List (List D) → Bool → Option Out) : r_t2a2IL2oB (some (Out.mk true (V.tup [(V.agg [X.d (D.int
  IntKind.i64 y0), X.d (D.list 2 y1)]), (V.one (X.d (D.bool y2)))]) D.junk [] 0)) rw K = K y0 y1 y2 := rfl
def r_t2a2IL2oI (x : Option Out) (rw : List (List D)) (K : Int → List (List D) → Int → Option Out) : Option Out := Option.bind x fun o => bif Out.ok o then bif V.isTup 2 (Out.val o) then bif
  V.isAgg 2 (V.comp (Out.val o) 0) then bif X.isD (X.cell (V.comp (Out.val o) 0) 0) && D.isInt IntKind.i64 (X.dd (X.cell (V.comp (Out.val o) 0) 0)) then bif X.isD (X.cell (V.comp (Out.val o)
  0) 1) && D.isList 2 (X.dd (X.cell (V.comp (Out.val o) 0) 1)) then bif V.isOne (V.comp (Out.val o) 1) then bif X.isD (X.cell (V.comp (Out.val o) 1) 0) && D.isInt IntKind.i64 (X.dd (X.cell
  (V.comp (Out.val o) 1) 0)) then bif Nat.beq (Out.m o) 0 && true then K (D.num (X.dd (X.cell (V.comp (Out.val o) 0) 0))) (D.rows (X.dd (X.cell (V.comp (Out.val o) 0) 1))) (D.num (X.dd
  (X.cell (V.comp (Out.val o) 1) 0))) else none else none else none else none else none else none else none else some (Out.mk false V.junk (Out.pv o) rw 0)
theorem g_t2a2IL2oI (y0 : Int) (y1 : List (List D)) (y2 : Int) (rw : List (List D)) (K : Int → List (List D) → Int → Option Out) : r_t2a2IL2oI (some (Out.mk true (V.tup [(V.agg [X.d (D.int
  IntKind.i64 y0), X.d (D.list 2 y1)]), (V.one (X.d (D.int IntKind.i64 y2)))]) D.junk [] 0)) rw K = K y0 y1 y2 := rfl
def r_t2a3IIL3oI (x : Option Out) (rw : List (List D)) (K : Int → Int → List (List D) → Int → Option Out) : Option Out := Option.bind x fun o => bif Out.ok o then bif V.isTup 2 (Out.val o)
  then bif V.isAgg 3 (V.comp (Out.val o) 0) then bif X.isD (X.cell (V.comp (Out.val o) 0) 0) && D.isInt IntKind.i64 (X.dd (X.cell (V.comp (Out.val o) 0) 0)) then bif X.isD (X.cell (V.comp
  (Out.val o) 0) 1) && D.isInt IntKind.i64 (X.dd (X.cell (V.comp (Out.val o) 0) 1)) then bif X.isD (X.cell (V.comp (Out.val o) 0) 2) && D.isList 3 (X.dd (X.cell (V.comp (Out.val o) 0) 2))
  then bif V.isOne (V.comp (Out.val o) 1) then bif X.isD (X.cell (V.comp (Out.val o) 1) 0) && D.isInt IntKind.i64 (X.dd (X.cell (V.comp (Out.val o) 1) 0)) then bif Nat.beq (Out.m o) 0 && true
  then K (D.num (X.dd (X.cell (V.comp (Out.val o) 0) 0))) (D.num (X.dd (X.cell (V.comp (Out.val o) 0) 1))) (D.rows (X.dd (X.cell (V.comp (Out.val o) 0) 2))) (D.num (X.dd (X.cell (V.comp
  (Out.val o) 1) 0))) else none else none else none else none else none else none else none else none else some (Out.mk false V.junk (Out.pv o) rw 0)
theorem g_t2a3IIL3oI (y0 : Int) (y1 : Int) (y2 : List (List D)) (y3 : Int) (rw : List (List D)) (K : Int → Int → List (List D) → Int → Option Out) : r_t2a3IIL3oI (some (Out.mk true (V.tup
  [(V.agg [X.d (D.int IntKind.i64 y0), X.d (D.int IntKind.i64 y1), X.d (D.list 3 y2)]), (V.one (X.d (D.int IntKind.i64 y3)))]) D.junk [] 0)) rw K = K y0 y1 y2 y3 := rfl
def r_t2oIoD (x : Option Out) (rw : List (List D)) (K : Int → D → Option Out) : Option Out := Option.bind x fun o => bif Out.ok o then bif V.isTup 2 (Out.val o) then bif V.isOne (V.comp
  (Out.val o) 0) then bif X.isD (X.cell (V.comp (Out.val o) 0) 0) && D.isInt IntKind.i64 (X.dd (X.cell (V.comp (Out.val o) 0) 0)) then bif V.isOne (V.comp (Out.val o) 1) then bif X.isD
  (X.cell (V.comp (Out.val o) 1) 0) then bif Nat.beq (Out.m o) 0 && true then K (D.num (X.dd (X.cell (V.comp (Out.val o) 0) 0))) (X.dd (X.cell (V.comp (Out.val o) 1) 0)) else none else none
  else none else none else none else none else some (Out.mk false V.junk (Out.pv o) rw 0)
theorem g_t2oIoD (y0 : Int) (y1 : D) (rw : List (List D)) (K : Int → D → Option Out) : r_t2oIoD (some (Out.mk true (V.tup [(V.one (X.d (D.int IntKind.i64 y0))), (V.one (X.d y1))]) D.junk []
  0)) rw K = K y0 y1 := rfl
def r_t2oSoB (x : Option Out) (rw : List (List D)) (K : ByteArray → Bool → Option Out) : Option Out := Option.bind x fun o => bif Out.ok o then bif V.isTup 2 (Out.val o) then bif V.isOne
  (V.comp (Out.val o) 0) then bif X.isD (X.cell (V.comp (Out.val o) 0) 0) && D.isStr (X.dd (X.cell (V.comp (Out.val o) 0) 0)) then bif V.isOne (V.comp (Out.val o) 1) then bif X.isD (X.cell
  (V.comp (Out.val o) 1) 0) && D.isBool (X.dd (X.cell (V.comp (Out.val o) 1) 0)) then bif Nat.beq (Out.m o) 0 && true then K (D.bytes (X.dd (X.cell (V.comp (Out.val o) 0) 0))) (D.bit (X.dd
  (X.cell (V.comp (Out.val o) 1) 0))) else none else none else none else none else none else none else some (Out.mk false V.junk (Out.pv o) rw 0)
theorem g_t2oSoB (y0 : ByteArray) (y1 : Bool) (rw : List (List D)) (K : ByteArray → Bool → Option Out) : r_t2oSoB (some (Out.mk true (V.tup [(V.one (X.d (D.str y0))), (V.one (X.d (D.bool
  y1)))]) D.junk [] 0)) rw K = K y0 y1 := rfl
def r_t3a2IL2oIoB (x : Option Out) (rw : List (List D)) (K : Int → List (List D) → Int → Bool → Option Out) : Option Out := Option.bind x fun o => bif Out.ok o then bif V.isTup 3 (Out.val o)
  then bif V.isAgg 2 (V.comp (Out.val o) 0) then bif X.isD (X.cell (V.comp (Out.val o) 0) 0) && D.isInt IntKind.i64 (X.dd (X.cell (V.comp (Out.val o) 0) 0)) then bif X.isD (X.cell (V.comp
  (Out.val o) 0) 1) && D.isList 2 (X.dd (X.cell (V.comp (Out.val o) 0) 1)) then bif V.isOne (V.comp (Out.val o) 1) then bif X.isD (X.cell (V.comp (Out.val o) 1) 0) && D.isInt IntKind.i64
  (X.dd (X.cell (V.comp (Out.val o) 1) 0)) then bif V.isOne (V.comp (Out.val o) 2) then bif X.isD (X.cell (V.comp (Out.val o) 2) 0) && D.isBool (X.dd (X.cell (V.comp (Out.val o) 2) 0)) then
  bif Nat.beq (Out.m o) 0 && true then K (D.num (X.dd (X.cell (V.comp (Out.val o) 0) 0))) (D.rows (X.dd (X.cell (V.comp (Out.val o) 0) 1))) (D.num (X.dd (X.cell (V.comp (Out.val o) 1) 0)))
  (D.bit (X.dd (X.cell (V.comp (Out.val o) 2) 0))) else none else none else none else none else none else none else none else none else none else some (Out.mk false V.junk (Out.pv o) rw 0)
theorem g_t3a2IL2oIoB (y0 : Int) (y1 : List (List D)) (y2 : Int) (y3 : Bool) (rw : List (List D)) (K : Int → List (List D) → Int → Bool → Option Out) : r_t3a2IL2oIoB (some (Out.mk true (V.tup
  [(V.agg [X.d (D.int IntKind.i64 y0), X.d (D.list 2 y1)]), (V.one (X.d (D.int IntKind.i64 y2))), (V.one (X.d (D.bool y3)))]) D.junk [] 0)) rw K = K y0 y1 y2 y3 := rfl
def r_t3a2IL2oSoB (x : Option Out) (rw : List (List D)) (K : Int → List (List D) → ByteArray → Bool → Option Out) : Option Out := Option.bind x fun o => bif Out.ok o then bif V.isTup 3
  (Out.val o) then bif V.isAgg 2 (V.comp (Out.val o) 0) then bif X.isD (X.cell (V.comp (Out.val o) 0) 0) && D.isInt IntKind.i64 (X.dd (X.cell (V.comp (Out.val o) 0) 0)) then bif X.isD (X.cell
  (V.comp (Out.val o) 0) 1) && D.isList 2 (X.dd (X.cell (V.comp (Out.val o) 0) 1)) then bif V.isOne (V.comp (Out.val o) 1) then bif X.isD (X.cell (V.comp (Out.val o) 1) 0) && D.isStr (X.dd
  (X.cell (V.comp (Out.val o) 1) 0)) then bif V.isOne (V.comp (Out.val o) 2) then bif X.isD (X.cell (V.comp (Out.val o) 2) 0) && D.isBool (X.dd (X.cell (V.comp (Out.val o) 2) 0)) then bif
  Nat.beq (Out.m o) 0 && true then K (D.num (X.dd (X.cell (V.comp (Out.val o) 0) 0))) (D.rows (X.dd (X.cell (V.comp (Out.val o) 0) 1))) (D.bytes (X.dd (X.cell (V.comp (Out.val o) 1) 0)))
  (D.bit (X.dd (X.cell (V.comp (Out.val o) 2) 0))) else none else none else none else none else none else none else none else none else none else some (Out.mk false V.junk (Out.pv o) rw 0)
theorem g_t3a2IL2oSoB (y0 : Int) (y1 : List (List D)) (y2 : ByteArray) (y3 : Bool) (rw : List (List D)) (K : Int → List (List D) → ByteArray → Bool → Option Out) : r_t3a2IL2oSoB (some (Out.mk
  true (V.tup [(V.agg [X.d (D.int IntKind.i64 y0), X.d (D.list 2 y1)]), (V.one (X.d (D.str y2))), (V.one (X.d (D.bool y3)))]) D.junk [] 0)) rw K = K y0 y1 y2 y3 := rfl
def r_t3a3IIL3oIoB (x : Option Out) (rw : List (List D)) (K : Int → Int → List (List D) → Int → Bool → Option Out) : Option Out := Option.bind x fun o => bif Out.ok o then bif V.isTup 3
  (Out.val o) then bif V.isAgg 3 (V.comp (Out.val o) 0) then bif X.isD (X.cell (V.comp (Out.val o) 0) 0) && D.isInt IntKind.i64 (X.dd (X.cell (V.comp (Out.val o) 0) 0)) then bif X.isD (X.cell
  (V.comp (Out.val o) 0) 1) && D.isInt IntKind.i64 (X.dd (X.cell (V.comp (Out.val o) 0) 1)) then bif X.isD (X.cell (V.comp (Out.val o) 0) 2) && D.isList 3 (X.dd (X.cell (V.comp (Out.val o) 0)
  2)) then bif V.isOne (V.comp (Out.val o) 1) then bif X.isD (X.cell (V.comp (Out.val o) 1) 0) && D.isInt IntKind.i64 (X.dd (X.cell (V.comp (Out.val o) 1) 0)) then bif V.isOne (V.comp
  (Out.val o) 2) then bif X.isD (X.cell (V.comp (Out.val o) 2) 0) && D.isBool (X.dd (X.cell (V.comp (Out.val o) 2) 0)) then bif Nat.beq (Out.m o) 0 && true then K (D.num (X.dd (X.cell (V.comp
  (Out.val o) 0) 0))) (D.num (X.dd (X.cell (V.comp (Out.val o) 0) 1))) (D.rows (X.dd (X.cell (V.comp (Out.val o) 0) 2))) (D.num (X.dd (X.cell (V.comp (Out.val o) 1) 0))) (D.bit (X.dd (X.cell
  (V.comp (Out.val o) 2) 0))) else none else none else none else none else none else none else none else none else none else none else some (Out.mk false V.junk (Out.pv o) rw 0)
theorem g_t3a3IIL3oIoB (y0 : Int) (y1 : Int) (y2 : List (List D)) (y3 : Int) (y4 : Bool) (rw : List (List D)) (K : Int → Int → List (List D) → Int → Bool → Option Out) : r_t3a3IIL3oIoB (some
  (Out.mk true (V.tup [(V.agg [X.d (D.int IntKind.i64 y0), X.d (D.int IntKind.i64 y1), X.d (D.list 3 y2)]), (V.one (X.d (D.int IntKind.i64 y3))), (V.one (X.d (D.bool y4)))]) D.junk [] 0)) rw
  K = K y0 y1 y2 y3 y4 := rfl
def r_t3a3IIL3oSoB (x : Option Out) (rw : List (List D)) (K : Int → Int → List (List D) → ByteArray → Bool → Option Out) : Option Out := Option.bind x fun o => bif Out.ok o then bif V.isTup 3
  (Out.val o) then bif V.isAgg 3 (V.comp (Out.val o) 0) then bif X.isD (X.cell (V.comp (Out.val o) 0) 0) && D.isInt IntKind.i64 (X.dd (X.cell (V.comp (Out.val o) 0) 0)) then bif X.isD (X.cell
  (V.comp (Out.val o) 0) 1) && D.isInt IntKind.i64 (X.dd (X.cell (V.comp (Out.val o) 0) 1)) then bif X.isD (X.cell (V.comp (Out.val o) 0) 2) && D.isList 3 (X.dd (X.cell (V.comp (Out.val o) 0)
  2)) then bif V.isOne (V.comp (Out.val o) 1) then bif X.isD (X.cell (V.comp (Out.val o) 1) 0) && D.isStr (X.dd (X.cell (V.comp (Out.val o) 1) 0)) then bif V.isOne (V.comp (Out.val o) 2) then
  bif X.isD (X.cell (V.comp (Out.val o) 2) 0) && D.isBool (X.dd (X.cell (V.comp (Out.val o) 2) 0)) then bif Nat.beq (Out.m o) 0 && true then K (D.num (X.dd (X.cell (V.comp (Out.val o) 0) 0)))
  (D.num (X.dd (X.cell (V.comp (Out.val o) 0) 1))) (D.rows (X.dd (X.cell (V.comp (Out.val o) 0) 2))) (D.bytes (X.dd (X.cell (V.comp (Out.val o) 1) 0))) (D.bit (X.dd (X.cell (V.comp (Out.val
  o) 2) 0))) else none else none else none else none else none else none else none else none else none else none else some (Out.mk false V.junk (Out.pv o) rw 0)
theorem g_t3a3IIL3oSoB (y0 : Int) (y1 : Int) (y2 : List (List D)) (y3 : ByteArray) (y4 : Bool) (rw : List (List D)) (K : Int → Int → List (List D) → ByteArray → Bool → Option Out) :
  r_t3a3IIL3oSoB (some (Out.mk true (V.tup [(V.agg [X.d (D.int IntKind.i64 y0), X.d (D.int IntKind.i64 y1), X.d (D.list 3 y2)]), (V.one (X.d (D.str y3))), (V.one (X.d (D.bool y4)))]) D.junk
  [] 0)) rw K = K y0 y1 y2 y3 y4 := rfl
def r_t3oIoIoB (x : Option Out) (rw : List (List D)) (K : Int → Int → Bool → Option Out) : Option Out := Option.bind x fun o => bif Out.ok o then bif V.isTup 3 (Out.val o) then bif V.isOne
  (V.comp (Out.val o) 0) then bif X.isD (X.cell (V.comp (Out.val o) 0) 0) && D.isInt IntKind.i64 (X.dd (X.cell (V.comp (Out.val o) 0) 0)) then bif V.isOne (V.comp (Out.val o) 1) then bif
  X.isD (X.cell (V.comp (Out.val o) 1) 0) && D.isInt IntKind.i64 (X.dd (X.cell (V.comp (Out.val o) 1) 0)) then bif V.isOne (V.comp (Out.val o) 2) then bif X.isD (X.cell (V.comp (Out.val o) 2)
  0) && D.isBool (X.dd (X.cell (V.comp (Out.val o) 2) 0)) then bif Nat.beq (Out.m o) 0 && true then K (D.num (X.dd (X.cell (V.comp (Out.val o) 0) 0))) (D.num (X.dd (X.cell (V.comp (Out.val o)
  1) 0))) (D.bit (X.dd (X.cell (V.comp (Out.val o) 2) 0))) else none else none else none else none else none else none else none else none else some (Out.mk false V.junk (Out.pv o) rw 0)
theorem g_t3oIoIoB (y0 : Int) (y1 : Int) (y2 : Bool) (rw : List (List D)) (K : Int → Int → Bool → Option Out) : r_t3oIoIoB (some (Out.mk true (V.tup [(V.one (X.d (D.int IntKind.i64 y0))),
  (V.one (X.d (D.int IntKind.i64 y1))), (V.one (X.d (D.bool y2)))]) D.junk [] 0)) rw K = K y0 y1 y2 := rfl
theorem call_step {f : FuncId} {fn : SFunc} {args : List V} {rows : List (List Lf × List D)} {k : Nat} (h : progV f = some fn) (hn : Nat.beq args.length fn.nparams = true) :
    Ak (k + 1) f args rows = runF (Ak k) shp (shp f).owns fn k args rows := by
  have e : Ak (k + 1) f args rows = (match progV f with
    | some fn => cond (Nat.beq args.length fn.nparams) (runF (Ak k) shp (shp f).owns fn k args rows) none
    | none => libV (Ak k) f args rows) := rfl
  rw [e, h]
  show cond _ _ _ = _
  rw [hn]
  rfl
end Go.Proofs.YtkpdofiflhjahaaDoor.Ps
