/- errors.as and errors.As at *api.Kind over a chain; fault.Of. -/
import Derived.Test.YthfdakglamgknaaDoorFc
namespace Go.Proofs.YthfdakglamgknaaDoor
open Go.RowKit Go.Extern.Stop Go.Stop Go.Extern

/-- the last value of a chain: a kind, or an error of errors.New -/
inductive Last : Value → Prop
  | kind (k : Int) : Last (.iface 23 (.int .i64 k))
  | str (b : Nat) : Last (.iface 66 (.pointer (some ⟨b, 0, none⟩)))

theorem Chain.head {w : World} {t : Value} (ht : Last t) : ∀ {l : List (ByteArray × Int)} {v : Value}, Chain w t l v → ∃ T x, v = .iface T x
  | [], _, h => by cases h; cases ht <;> exact ⟨_, _, rfl⟩
  | (_, _) :: _, _, ⟨b, u, h1, _, _⟩ => ⟨_, _, h1⟩

theorem cell_of_block {w : World} {b i : Nat} {cs : Array Value} {T : TypeId} {v : Value} (h : w.heap[b]? = some (.cells cs T (0, 0))) (hv : cs[i]? = some v) : w.cell? ⟨b, i, none⟩ = some v := by
  simp [World.cell?, h, hv]

set_option maxRecDepth 100000 in
set_option maxHeartbeats 4000000 in
theorem eas_K (k : Int) (ta a : Addr) (tgt old : Value) (w : World) (l : List (ByteArray × Int)) (v : Value) (hch : Chain w (.iface 23 (.int .i64 k)) l v) (ha : w.cell? a = some (.pointer (some ta))) (ht0 : w.cell? ta = some old) (hf0 : w.frozen? ta = false) :
    Calls Tryd.prog 24 #[v, tgt, .agg #[.pointer (some ⟨4, 63, none⟩), .pointer (some a), .int .u64 150], .iface 74 (.agg #[.pointer (some ⟨4, 23, none⟩)])] w
      fun ev w' => ev = .returned (.bool true) ∧ ((w.alloc (.cells #[.pointer (some ⟨4, 63, none⟩), .pointer (some a), .int .u64 150] 54)).alloc (.cells #[.int .i64 k] 23)).setCell ta (.int .i64 k) = w' := by
  have h1 := x_TypeOf; have h2 := x_rtAssign; have h3 := x_VElem; have h4 := x_ValueOf; have h5 := x_VSet
  have f1 := to_F; have f2 := as_FtoK; have f3 := vo_K; have f4 := m_AssignableTo; have f5 := to_K; have f6 := as_KtoK
  have q1 := no_As_F; have q2 := has_U_F; have q3 := m_Unwrap
  have l1 := lt_cell ha
  have l2 := lt_cell ht0
  have el := el_KP a ta (w.alloc (.cells #[.pointer (some ⟨4, 63, none⟩), .pointer (some a), .int .u64 150] 54)) (by rw [World.cell?_alloc_lt _ _ a l1]; exact ha)
  have st := set_K ta ⟨w.heap.size + 1, 0, none⟩ k old ((w.alloc (.cells #[.pointer (some ⟨4, 63, none⟩), .pointer (some a), .int .u64 150] 54)).alloc (.cells #[.int .i64 k] 23))
    (by rw [World.cell?_alloc_at _ _ _ _ (by simp)]; rfl)
    (by rw [World.cell?_alloc_lt _ _ ta (by simp; omega), World.cell?_alloc_lt _ _ ta l2]; exact ht0)
    (by rw [World.frozen?_alloc_old _ _ ta (by simp; omega), World.frozen?_alloc_old _ _ ta (Nat.ne_of_lt l2)]; exact hf0)
  have HC := Lib.hid hch
  clear hch
  go_enter Tryd.func24, Tryd.ntmps24
  go_wp2
  go_loopg [0] l.length (fun g p wr => wr = w.alloc (.cells #[.pointer (some ⟨4, 63, none⟩), .pointer (some a), .int .u64 150] 54) ∧ ∃ r, r.length = g ∧ Chain w (.iface 23 (.int .i64 k)) r p)
  case atStart => exact ⟨rfl, l, rfl, HC.out⟩
  case round =>
    obtain ⟨rfl, r, hr, hc⟩ := hrel
    cases r with
    | nil =>
      obtain rfl := hc
      clear hr
      go_wp2
      go_ret
      exact ⟨rfl, rfl⟩
    | cons x r =>
      obtain ⟨s, n⟩ := x
      obtain ⟨b, u, rfl, hb, hc⟩ := hc
      obtain ⟨T, y, rfl⟩ := hc.head (Last.kind k)
      have hlt := lt_block hb
      have hcell : (w.alloc (.cells #[.pointer (some ⟨4, 63, none⟩), .pointer (some a), .int .u64 150] 54)).cell? ⟨b, 2, none⟩ = some (.iface T y) := by
        rw [World.cell?_alloc_lt _ _ ⟨b, 2, none⟩ hlt]; exact cell_of_block hb rfl
      have HC2 := Lib.hid hc
      have HR := Lib.hid hr
      clear hc hr hb
      go_wp2_with (go_at_call 12; refine (unwrap_any b _ _ hcell).mono ?_; rintro ev w' ⟨rfl, rfl⟩)
      go_roundg r.length
      case measure => have := HR.out; simp at this; omega
      case rel => exact ⟨rfl, r, rfl, HC2.out⟩
end Go.Proofs.YthfdakglamgknaaDoor
