/- Contracts of package fault's small functions: Wrap, Unwrap; a chain of faults in memory. -/
import Derived.Test.YthfdakglamgknaaDoorProg
import Derived.WalkKit
import Derived.WalkSpells
import Derived.WalkLawsBesides
import Derived.LaidEql
import Derived.Stop.Asserts
import Derived.Lib.Hide
import Derived.Deep.QuietTactic
import Derived.BigQuiet
namespace Go.Proofs.YthfdakglamgknaaDoor
open Go.RowKit Go.Extern.Stop Go.Stop Go.Extern

/-- A chain of faults in memory, the outermost first, down to the value t. -/
def Chain (w : World) (t : Value) : List (ByteArray × Int) → Value → Prop
  | [], v => v = t
  | (s, n) :: r, v => ∃ b u, v = .iface 29 (.pointer (some ⟨b, 0, none⟩)) ∧ w.heap[b]? = some (.cells #[.string s, .int .i64 n, u] 37 (0, 0)) ∧ Chain w t r u

theorem lt_block {w : World} {b : Nat} {o : Obj} (h : w.heap[b]? = some o) : b < w.heap.size := by
  rcases Nat.lt_or_ge b w.heap.size with h' | h'
  · exact h'
  · rw [Array.getElem?_eq_none h'] at h; cases h

theorem lt_cell {w : World} {a : Addr} {v : Value} (h : w.cell? a = some v) : a.block < w.heap.size := by
  rcases Nat.lt_or_ge a.block w.heap.size with h' | h'
  · exact h'
  · simp [World.cell?, Array.getElem?_eq_none h'] at h

theorem ext_alloc {w w' : World} (h : Below w.heap.size w w') (o : Obj) : Below w.heap.size w (w'.alloc o) := h.alloc h.size o
theorem ext_trans {a b c : World} (h : Below a.heap.size a b) (k : Below b.heap.size b c) : Below a.heap.size a c := h.trans (k.mono h.size)

theorem Chain.later {w w' : World} {t : Value} (hb : Below w.heap.size w w') : ∀ {l : List (ByteArray × Int)} {v : Value}, Chain w t l v → Chain w' t l v
  | [], _, h => h
  | (_, _) :: _, _, ⟨b, u, h1, h2, h3⟩ => ⟨b, u, h1, (hb.block b (lt_block h2)).trans h2, h3.later hb⟩

/-! ### type assertions to a type of its own, by the kernel -/
theorem as_KF (v : Value) (w : World) : (Instr.typeAssert (.iface 29 v) 27 23 true).run Tryd.prog w = .ok (.tuple #[.int .i64 0, .bool false]) w := by kernel_rfl
theorem as_KK (v : Value) (w : World) : (Instr.typeAssert (.iface 23 v) 27 23 true).run Tryd.prog w = .ok (.tuple #[v, .bool true]) w := by kernel_rfl
theorem as_KS (v : Value) (w : World) : (Instr.typeAssert (.iface 66 v) 27 23 true).run Tryd.prog w = .ok (.tuple #[.int .i64 0, .bool false]) w := by kernel_rfl
theorem as_FF (v : Value) (w : World) : (Instr.typeAssert (.iface 29 v) 27 29 true).run Tryd.prog w = .ok (.tuple #[v, .bool true]) w := by kernel_rfl
theorem as_FK (v : Value) (w : World) : (Instr.typeAssert (.iface 23 v) 27 29 true).run Tryd.prog w = .ok (.tuple #[.pointer none, .bool false]) w := by kernel_rfl
theorem as_FS (v : Value) (w : World) : (Instr.typeAssert (.iface 66 v) 27 29 true).run Tryd.prog w = .ok (.tuple #[.pointer none, .bool false]) w := by kernel_rfl

/-! ### Wrap -/
set_option maxRecDepth 100000 in
set_option maxHeartbeats 400000 in
theorem wrap_fault (s : ByteArray) (n : Int) (b : Nat) (w : World) :
    Calls Tryd.prog 17 #[.string s, .int .i64 n, .iface 29 (.pointer (some ⟨b, 0, none⟩))] w fun e w' => e = .returned (.iface 29 (.pointer (some ⟨w.heap.size, 0, none⟩))) ∧ w.alloc (.cells #[.string s, .int .i64 n, .iface 29 (.pointer (some ⟨b, 0, none⟩))] 37) = w' := by
  have a1 := as_KF
  go_enter Tryd.func17, Tryd.ntmps17
  go_wp2
  go_ret
  exact ⟨rfl, rfl⟩
set_option maxRecDepth 100000 in
set_option maxHeartbeats 400000 in
theorem wrap_err (s : ByteArray) (n : Int) (b : Nat) (w : World) :
    Calls Tryd.prog 17 #[.string s, .int .i64 n, .iface 66 (.pointer (some ⟨b, 0, none⟩))] w fun e w' => e = .returned (.iface 29 (.pointer (some ⟨w.heap.size, 0, none⟩))) ∧ w.alloc (.cells #[.string s, .int .i64 n, .iface 66 (.pointer (some ⟨b, 0, none⟩))] 37) = w' := by
  have a1 := as_KS
  go_enter Tryd.func17, Tryd.ntmps17
  go_wp2
  go_ret
  exact ⟨rfl, rfl⟩
set_option maxRecDepth 100000 in
set_option maxHeartbeats 400000 in
theorem wrap_kind (s : ByteArray) (n k : Int) (w : World) (hk : (k == 0) = false) :
    Calls Tryd.prog 17 #[.string s, .int .i64 n, .iface 23 (.int .i64 k)] w fun e w' => e = .returned (.iface 29 (.pointer (some ⟨w.heap.size, 0, none⟩))) ∧ w.alloc (.cells #[.string s, .int .i64 n, .iface 23 (.int .i64 k)] 37) = w' := by
  have a1 := as_KK
  go_enter Tryd.func17, Tryd.ntmps17
  go_wp2
  go_ret
  exact ⟨rfl, rfl⟩
set_option maxRecDepth 100000 in
set_option maxHeartbeats 400000 in
theorem wrap_ok (s : ByteArray) (n : Int) (w : World) :
    Calls Tryd.prog 17 #[.string s, .int .i64 n, .iface 23 (.int .i64 0)] w fun e w' => e = .returned .nilIface ∧ w = w' := by
  have a1 := as_KK
  go_enter Tryd.func17, Tryd.ntmps17
  go_wp2
  go_ret
  exact ⟨rfl, rfl⟩
set_option maxRecDepth 100000 in
set_option maxHeartbeats 400000 in
theorem wrap_nil (s : ByteArray) (n : Int) (w : World) :
    Calls Tryd.prog 17 #[.string s, .int .i64 n, .nilIface] w fun e w' => e = .returned .nilIface ∧ w = w' := by
  go_enter Tryd.func17, Tryd.ntmps17
  go_wp2
  go_ret
  exact ⟨rfl, rfl⟩

/-! ### Unwrap -/
set_option maxRecDepth 100000 in
set_option maxHeartbeats 400000 in
theorem unwrap_nil (w : World) : Calls Tryd.prog 12 #[.pointer none] w fun e w' => e = .returned .nilIface ∧ w = w' := by
  go_enter Tryd.func12, Tryd.ntmps12
  go_wp2
  go_ret
  exact ⟨rfl, rfl⟩
set_option maxRecDepth 100000 in
set_option maxHeartbeats 400000 in
theorem unwrap_any (b : Nat) (u : Value) (w : World) (hc : w.cell? ⟨b, 2, none⟩ = some u) : Calls Tryd.prog 12 #[.pointer (some ⟨b, 0, none⟩)] w fun e w' => e = .returned u ∧ w = w' := by
  go_enter Tryd.func12, Tryd.ntmps12
  go_wp2
  go_ret
  exact ⟨rfl, rfl⟩
end Go.Proofs.YthfdakglamgknaaDoor
