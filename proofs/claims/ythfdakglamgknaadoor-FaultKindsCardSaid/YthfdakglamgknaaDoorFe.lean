/- errors.As at *api.Kind; fault.Of. -/
import Derived.Test.YthfdakglamgknaaDoorFd
namespace Go.Proofs.YthfdakglamgknaaDoor
open Go.RowKit Go.Extern.Stop Go.Stop Go.Extern

/- errors.as over a chain that ends in an error of errors.New: no kind. -/
set_option maxRecDepth 100000 in
set_option maxHeartbeats 4000000 in
theorem eas_S (c : Nat) (ta a : Addr) (tgt : Value) (w : World) (l : List (ByteArray × Int)) (v : Value) (hch : Chain w (.iface 66 (.pointer (some ⟨c, 0, none⟩))) l v) (ha : w.cell? a = some (.pointer (some ta))) :
    Calls Tryd.prog 24 #[v, tgt, .agg #[.pointer (some ⟨4, 63, none⟩), .pointer (some a), .int .u64 150], .iface 74 (.agg #[.pointer (some ⟨4, 23, none⟩)])] w
      fun ev w' => ev = .returned (.bool false) ∧ w.alloc (.cells #[.pointer (some ⟨4, 63, none⟩), .pointer (some a), .int .u64 150] 54) = w' := by
  have h1 := x_TypeOf; have h2 := x_rtAssign
  have f1 := to_F; have f2 := as_FtoK; have f4 := m_AssignableTo; have f5 := to_S; have f6 := as_StoK
  have q1 := no_As_F; have q2 := has_U_F; have q3 := m_Unwrap; have q4 := no_As_S; have q5 := no_U_S; have q6 := no_UU_S
  have l1 := lt_cell ha
  have HC := Lib.hid hch
  clear hch
  go_enter Tryd.func24, Tryd.ntmps24
  go_wp2
  go_loopg [0] l.length (fun g p wr => wr = w.alloc (.cells #[.pointer (some ⟨4, 63, none⟩), .pointer (some a), .int .u64 150] 54) ∧ ∃ r, r.length = g ∧ Chain w (.iface 66 (.pointer (some ⟨c, 0, none⟩))) r p)
  case atStart => exact ⟨rfl, l, rfl, HC.out⟩
  case round =>
    obtain ⟨rfl, r, hr, hc⟩ := hrel
    cases r with
    | nil =>
      obtain rfl := hc
      clear hr
      go_wp2
      go_ret
      exact ⟨rfl, rfl⟩
    | cons x r =>
      obtain ⟨s, n⟩ := x
      obtain ⟨b, u, rfl, hb, hc⟩ := hc
      obtain ⟨T, y, rfl⟩ := hc.head (Last.str c)
      have hlt := lt_block hb
      have hcell : (w.alloc (.cells #[.pointer (some ⟨4, 63, none⟩), .pointer (some a), .int .u64 150] 54)).cell? ⟨b, 2, none⟩ = some (.iface T y) := by
        rw [World.cell?_alloc_lt _ _ ⟨b, 2, none⟩ hlt]; exact cell_of_block hb rfl
      have HC2 := Lib.hid hc
      have HR := Lib.hid hr
      clear hc hr hb
      go_wp2_with (go_at_call 12; refine (unwrap_any b _ _ hcell).mono ?_; rintro ev w' ⟨rfl, rfl⟩)
      go_roundg r.length
      case measure => have := HR.out; simp at this; omega
      case rel => exact ⟨rfl, r, rfl, HC2.out⟩

/- what errors.As comes to at a *api.Kind: up to errors.as. -/
set_option maxRecDepth 100000 in
set_option maxHeartbeats 2000000 in
theorem As_K (k : Int) (t : Addr) (old : Value) (l : List (ByteArray × Int)) (v : Value) (w : World) (hch : Chain w (.iface 23 (.int .i64 k)) l v) (hg : w.cell? ⟨0, 0, none⟩ = some (.iface 74 (.agg #[.pointer (some ⟨4, 27, none⟩)]))) (ht0 : w.cell? t = some old) (hf0 : w.frozen? t = false) :
    Calls Tryd.prog 9 #[v, .iface 63 (.pointer (some t))] w
      fun ev w' => ev = .returned (.bool true) ∧ ∃ w1, Below w.heap.size w w1 ∧ w1.setCell t (.int .i64 k) = w' := by
  have h1 := x_ValueOf; have h2 := x_VType; have h3 := x_VIsNil; have h4 := x_abiKind; have h5 := x_rtElem; have h6 := x_rtImpl
  have f1 := vo_KP; have f2 := ty_KP; have f3 := m_Kind; have f4 := k_KP; have f5 := k_K; have f6 := m_Elem; have f7 := m_Implements; have f8 := e_KP; have f9 := i_K
  have l1 := lt_cell hg
  have l2 := lt_cell ht0
  have n8 := n_KP ⟨w.heap.size, 0, none⟩ t ((w.alloc (.cells #[.pointer (some t)] 63)).alloc (.cells #[.pointer (some ⟨4, 63, none⟩), .pointer (some ⟨w.heap.size, 0, none⟩), .int .u64 150] 54)) (by simp)
  have hg2 : ((w.alloc (.cells #[.pointer (some t)] 63)).alloc (.cells #[.pointer (some ⟨4, 63, none⟩), .pointer (some ⟨w.heap.size, 0, none⟩), .int .u64 150] 54)).cell? ⟨0, 0, none⟩ = some (.iface 74 (.agg #[.pointer (some ⟨4, 27, none⟩)])) := by
    rw [World.cell?_alloc_lt _ _ _ (by simp), World.cell?_alloc_lt _ _ _ l1]; exact hg
  have hte : ((w.alloc (.cells #[.pointer (some t)] 63)).alloc (.cells #[.pointer (some ⟨4, 63, none⟩), .pointer (some ⟨w.heap.size, 0, none⟩), .int .u64 150] 54)).cell? t = some old := by
    rw [World.cell?_alloc_lt _ _ _ (by simp; omega), World.cell?_alloc_lt _ _ _ l2]; exact ht0
  have hfe : ((w.alloc (.cells #[.pointer (some t)] 63)).alloc (.cells #[.pointer (some ⟨4, 63, none⟩), .pointer (some ⟨w.heap.size, 0, none⟩), .int .u64 150] 54)).frozen? t = false := by
    rw [World.frozen?_alloc_old _ _ t (by simp; omega), World.frozen?_alloc_old _ _ t (Nat.ne_of_lt l2)]; exact hf0
  have hae : ((w.alloc (.cells #[.pointer (some t)] 63)).alloc (.cells #[.pointer (some ⟨4, 63, none⟩), .pointer (some ⟨w.heap.size, 0, none⟩), .int .u64 150] 54)).cell? ⟨w.heap.size, 0, none⟩ = some (.pointer (some t)) := by
    rw [World.cell?_alloc_lt _ _ _ (by simp)]; simp
  have HC := Lib.hid (hch.later (ext_alloc (ext_alloc (Below.refl _ _) (.cells #[.pointer (some t)] 63)) (.cells #[.pointer (some ⟨4, 63, none⟩), .pointer (some ⟨w.heap.size, 0, none⟩), .int .u64 150] 54)))
  obtain ⟨T, y, rfl⟩ := hch.head (Last.kind k)
  clear hch
  go_enter Tryd.func9, Tryd.ntmps9
  go_wp2_with (go_at_call 24; refine (eas_K k t _ _ old _ l _ HC.out hae hte hfe).mono ?_; rintro ev w' ⟨rfl, rfl⟩)
  go_ret
  exact ⟨rfl, _, ext_alloc (ext_alloc (ext_alloc (ext_alloc (Below.refl _ _) _) _) _) _, rfl⟩

set_option maxRecDepth 100000 in
set_option maxHeartbeats 2000000 in
theorem As_S (c : Nat) (t : Addr) (old : Value) (l : List (ByteArray × Int)) (v : Value) (w : World) (hch : Chain w (.iface 66 (.pointer (some ⟨c, 0, none⟩))) l v) (hg : w.cell? ⟨0, 0, none⟩ = some (.iface 74 (.agg #[.pointer (some ⟨4, 27, none⟩)]))) (ht0 : w.cell? t = some old) :
    Calls Tryd.prog 9 #[v, .iface 63 (.pointer (some t))] w
      fun ev w' => ev = .returned (.bool false) ∧ Below w.heap.size w w' := by
  have h1 := x_ValueOf; have h2 := x_VType; have h3 := x_VIsNil; have h4 := x_abiKind; have h5 := x_rtElem; have h6 := x_rtImpl
  have f1 := vo_KP; have f2 := ty_KP; have f3 := m_Kind; have f4 := k_KP; have f5 := k_K; have f6 := m_Elem; have f7 := m_Implements; have f8 := e_KP; have f9 := i_K
  have l1 := lt_cell hg
  have l2 := lt_cell ht0
  have n8 := n_KP ⟨w.heap.size, 0, none⟩ t ((w.alloc (.cells #[.pointer (some t)] 63)).alloc (.cells #[.pointer (some ⟨4, 63, none⟩), .pointer (some ⟨w.heap.size, 0, none⟩), .int .u64 150] 54)) (by simp)
  have hg2 : ((w.alloc (.cells #[.pointer (some t)] 63)).alloc (.cells #[.pointer (some ⟨4, 63, none⟩), .pointer (some ⟨w.heap.size, 0, none⟩), .int .u64 150] 54)).cell? ⟨0, 0, none⟩ = some (.iface 74 (.agg #[.pointer (some ⟨4, 27, none⟩)])) := by
    rw [World.cell?_alloc_lt _ _ _ (by simp), World.cell?_alloc_lt _ _ _ l1]; exact hg
  have hae : ((w.alloc (.cells #[.pointer (some t)] 63)).alloc (.cells #[.pointer (some ⟨4, 63, none⟩), .pointer (some ⟨w.heap.size, 0, none⟩), .int .u64 150] 54)).cell? ⟨w.heap.size, 0, none⟩ = some (.pointer (some t)) := by
    rw [World.cell?_alloc_lt _ _ _ (by simp)]; simp
  have HC := Lib.hid (hch.later (ext_alloc (ext_alloc (Below.refl _ _) (.cells #[.pointer (some t)] 63)) (.cells #[.pointer (some ⟨4, 63, none⟩), .pointer (some ⟨w.heap.size, 0, none⟩), .int .u64 150] 54)))
  obtain ⟨T, y, rfl⟩ := hch.head (Last.str c)
  clear hch
  go_enter Tryd.func9, Tryd.ntmps9
  go_wp2_with (go_at_call 24; refine (eas_S c t _ _ _ l _ HC.out hae).mono ?_; rintro ev w' ⟨rfl, rfl⟩)
  go_ret
  exact ⟨rfl, ext_alloc (ext_alloc (ext_alloc (Below.refl _ _) _) _) _⟩

/-! ### fault.Of -/
set_option maxRecDepth 100000 in
set_option maxHeartbeats 400000 in
theorem of_nil (w : World) : Calls Tryd.prog 13 #[.nilIface] w fun e w' => e = .returned (.int .i64 0) ∧ w = w' := by
  go_enter Tryd.func13, Tryd.ntmps13
  go_wp2
  go_ret
  exact ⟨rfl, rfl⟩

set_option maxRecDepth 100000 in
set_option maxHeartbeats 1000000 in
theorem of_kind (k : Int) (l : List (ByteArray × Int)) (v : Value) (w : World) (hch : Chain w (.iface 23 (.int .i64 k)) l v) (hg : w.cell? ⟨0, 0, none⟩ = some (.iface 74 (.agg #[.pointer (some ⟨4, 27, none⟩)]))) :
    Calls Tryd.prog 13 #[v] w fun e w' => e = .returned (.int .i64 k) ∧ Below w.heap.size w w' := by
  have HC := Lib.hid (hch.later (ext_alloc (Below.refl _ _) (.cells #[.int .i64 0] 23)))
  obtain ⟨T, y, rfl⟩ := hch.head (Last.kind k)
  clear hch
  have l1 := lt_cell hg
  have hg2 : (w.alloc (.cells #[.int .i64 0] 23)).cell? ⟨0, 0, none⟩ = some (.iface 74 (.agg #[.pointer (some ⟨4, 27, none⟩)])) := by
    rw [World.cell?_alloc_lt _ _ _ l1]; exact hg
  have hc2 : (w.alloc (.cells #[.int .i64 0] 23)).cell? ⟨w.heap.size, 0, none⟩ = some (.int .i64 0) := by simp
  have hf2 : (w.alloc (.cells #[.int .i64 0] 23)).frozen? ⟨w.heap.size, 0, none⟩ = false := by simp
  clear hg
  go_enter Tryd.func13, Tryd.ntmps13
  go_wp2_with (go_at_call 9; refine (As_K k _ _ l _ _ HC.out hg2 hc2 hf2).mono ?_; rintro ev w' ⟨rfl, w1, hb, rfl⟩; have hcx := hb.cell (p := ⟨w.heap.size, 0, none⟩) (by simp); rw [hc2] at hcx)
  go_ret
  refine ⟨rfl, ?_⟩
  exact ((ext_alloc (Below.refl _ _) _).trans (hb.mono (by simp))).setCell (by simp) _

set_option maxRecDepth 100000 in
set_option maxHeartbeats 1000000 in
theorem of_str (c : Nat) (l : List (ByteArray × Int)) (v : Value) (w : World) (hch : Chain w (.iface 66 (.pointer (some ⟨c, 0, none⟩))) l v) (hg : w.cell? ⟨0, 0, none⟩ = some (.iface 74 (.agg #[.pointer (some ⟨4, 27, none⟩)]))) :
    Calls Tryd.prog 13 #[v] w fun e w' => e = .returned (.int .i64 1) ∧ Below w.heap.size w w' := by
  have HC := Lib.hid (hch.later (ext_alloc (Below.refl _ _) (.cells #[.int .i64 0] 23)))
  obtain ⟨T, y, rfl⟩ := hch.head (Last.str c)
  clear hch
  have l1 := lt_cell hg
  have hg2 : (w.alloc (.cells #[.int .i64 0] 23)).cell? ⟨0, 0, none⟩ = some (.iface 74 (.agg #[.pointer (some ⟨4, 27, none⟩)])) := by
    rw [World.cell?_alloc_lt _ _ _ l1]; exact hg
  have hc2 : (w.alloc (.cells #[.int .i64 0] 23)).cell? ⟨w.heap.size, 0, none⟩ = some (.int .i64 0) := by simp
  clear hg
  go_enter Tryd.func13, Tryd.ntmps13
  go_wp2_with (go_at_call 9; refine (As_S c _ _ l _ _ HC.out hg2 hc2).mono ?_; rintro ev w' ⟨rfl, hb⟩)
  go_ret
  exact ⟨rfl, (ext_alloc (Below.refl _ _) _).trans (hb.mono (by simp))⟩
end Go.Proofs.YthfdakglamgknaaDoor
