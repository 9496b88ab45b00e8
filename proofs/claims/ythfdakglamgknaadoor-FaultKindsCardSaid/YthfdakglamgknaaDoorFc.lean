/- errors.as and errors.As: by their contracts, over a chain of faults. -/
import Derived.Test.YthfdakglamgknaaDoorFb
namespace Go.Proofs.YthfdakglamgknaaDoor
open Go.RowKit Go.Extern.Stop Go.Stop Go.Extern

set_option maxRecDepth 100000 in
set_option maxHeartbeats 2000000 in
theorem eas_F (e ta a : Addr) (tgt old : Value) (w : World) (ha : w.cell? a = some (.pointer (some ta))) (ht0 : w.cell? ta = some old) (hf0 : w.frozen? ta = false) :
    Calls Tryd.prog 24 #[.iface 29 (.pointer (some e)), tgt, .agg #[.pointer (some ⟨4, 31, none⟩), .pointer (some a), .int .u64 150], .iface 74 (.agg #[.pointer (some ⟨4, 29, none⟩)])] w
      fun ev w' => ev = .returned (.bool true) ∧ ((w.alloc (.cells #[.pointer (some ⟨4, 31, none⟩), .pointer (some a), .int .u64 150] 54)).alloc (.cells #[.pointer (some e)] 29)).setCell ta (.pointer (some e)) = w' := by
  have h1 := x_TypeOf; have h2 := x_rtAssign; have h3 := x_VElem; have h4 := x_ValueOf; have h5 := x_VSet
  have f1 := to_F; have f2 := as_FtoF; have f3 := vo_F; have f4 := m_AssignableTo
  have l1 := lt_cell ha
  have l2 := lt_cell ht0
  have el := el_FF a ta (w.alloc (.cells #[.pointer (some ⟨4, 31, none⟩), .pointer (some a), .int .u64 150] 54)) (by rw [World.cell?_alloc_lt _ _ a l1]; exact ha)
  have st := set_F ta ⟨w.heap.size + 1, 0, none⟩ e old ((w.alloc (.cells #[.pointer (some ⟨4, 31, none⟩), .pointer (some a), .int .u64 150] 54)).alloc (.cells #[.pointer (some e)] 29))
    (by rw [World.cell?_alloc_at _ _ _ _ (by simp)]; rfl)
    (by rw [World.cell?_alloc_lt _ _ ta (by simp; omega), World.cell?_alloc_lt _ _ ta l2]; exact ht0)
    (by rw [World.frozen?_alloc_old _ _ ta (by simp; omega), World.frozen?_alloc_old _ _ ta (Nat.ne_of_lt l2)]; exact hf0)
  go_enter Tryd.func24, Tryd.ntmps24
  go_wp2
  refine wp_loop_rounds 1 ?_
  rw [rounds_succ]
  go_wp2
  go_ret
  exact ⟨rfl, rfl⟩

set_option maxRecDepth 100000 in
set_option maxHeartbeats 2000000 in
theorem As_F (e t : Addr) (old : Value) (w : World) (hg : w.cell? ⟨0, 0, none⟩ = some (.iface 74 (.agg #[.pointer (some ⟨4, 27, none⟩)]))) (ht0 : w.cell? t = some old) (hf0 : w.frozen? t = false) :
    Calls Tryd.prog 9 #[.iface 29 (.pointer (some e)), .iface 31 (.pointer (some t))] w
      fun ev w' => ev = .returned (.bool true) ∧ ∃ w1, Below w.heap.size w w1 ∧ w1.setCell t (.pointer (some e)) = w' := by
  have h1 := x_ValueOf; have h2 := x_VType; have h3 := x_VIsNil; have h4 := x_abiKind; have h5 := x_rtElem; have h6 := x_rtImpl
  have f1 := vo_FF; have f2 := ty_FF; have f3 := m_Kind; have f4 := k_FF; have f5 := k_F; have f6 := m_Elem; have f7 := m_Implements; have f8 := e_FF; have f9 := i_F
  have l1 := lt_cell hg
  have l2 := lt_cell ht0
  have n8 := n_FF ⟨w.heap.size, 0, none⟩ t ((w.alloc (.cells #[.pointer (some t)] 31)).alloc (.cells #[.pointer (some ⟨4, 31, none⟩), .pointer (some ⟨w.heap.size, 0, none⟩), .int .u64 150] 54)) (by simp)
  have hg2 : ((w.alloc (.cells #[.pointer (some t)] 31)).alloc (.cells #[.pointer (some ⟨4, 31, none⟩), .pointer (some ⟨w.heap.size, 0, none⟩), .int .u64 150] 54)).cell? ⟨0, 0, none⟩ = some (.iface 74 (.agg #[.pointer (some ⟨4, 27, none⟩)])) := by
    rw [World.cell?_alloc_lt _ _ _ (by simp), World.cell?_alloc_lt _ _ _ l1]; exact hg
  have hte : ((w.alloc (.cells #[.pointer (some t)] 31)).alloc (.cells #[.pointer (some ⟨4, 31, none⟩), .pointer (some ⟨w.heap.size, 0, none⟩), .int .u64 150] 54)).cell? t = some old := by
    rw [World.cell?_alloc_lt _ _ _ (by simp; omega), World.cell?_alloc_lt _ _ _ l2]; exact ht0
  have hfe : ((w.alloc (.cells #[.pointer (some t)] 31)).alloc (.cells #[.pointer (some ⟨4, 31, none⟩), .pointer (some ⟨w.heap.size, 0, none⟩), .int .u64 150] 54)).frozen? t = false := by
    rw [World.frozen?_alloc_old _ _ t (by simp; omega), World.frozen?_alloc_old _ _ t (Nat.ne_of_lt l2)]; exact hf0
  have hae : ((w.alloc (.cells #[.pointer (some t)] 31)).alloc (.cells #[.pointer (some ⟨4, 31, none⟩), .pointer (some ⟨w.heap.size, 0, none⟩), .int .u64 150] 54)).cell? ⟨w.heap.size, 0, none⟩ = some (.pointer (some t)) := by
    rw [World.cell?_alloc_lt _ _ _ (by simp)]; simp
  go_enter Tryd.func9, Tryd.ntmps9
  go_wp2_with (go_at_call 24; refine (eas_F e t _ _ old _ hae hte hfe).mono ?_; rintro ev w' ⟨rfl, rfl⟩)
  go_ret
  exact ⟨rfl, _, ext_alloc (ext_alloc (ext_alloc (ext_alloc (Below.refl _ _) _) _) _) _, rfl⟩
end Go.Proofs.YthfdakglamgknaaDoor
