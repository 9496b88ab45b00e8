/- errors.Is over a chain of faults; fault.Is; errors.New. -/
import Derived.Test.YthfdakglamgknaaDoorFe
namespace Go
section
variable {P : Program} (w : World)
theorem flt_equalIn_iface_int (d : Nat) {ti tn : TypeId} {ms : Array (String × TypeId)} {i : TypeInfo} {k : IntKind} (a b : Int)
    (hi : P.underlying ti = some (.interface ms)) (hn : P.underlying tn = some (.int k)) (hinfo : P.info? tn = some i) (hcomp : i.comparable = true) :
    (Op.equalIn (d + 2) ti (.iface tn (.int k a)) (.iface tn (.int k b))).run P w = .ok (a == b) w := by
  simp [Op.equalIn, run_underlying hi, run_underlying hn, typeInfo, hinfo, hcomp]
theorem flt_eql_iface_int {ti tn : TypeId} {ms : Array (String × TypeId)} {i : TypeInfo} {k : IntKind} (a b : Int)
    (hi : P.underlying ti = some (.interface ms)) (hn : P.underlying tn = some (.int k)) (hinfo : P.info? tn = some i) (hcomp : i.comparable = true) :
    (binOp .eql ti (.iface tn (.int k a)) (.iface tn (.int k b))).run P w = .ok (.bool (a == b)) w := by
  simp only [binOp]
  simp [Op.equal, Op.maxDepth, flt_equalIn_iface_int w 9998 a b hi hn hinfo hcomp]
end
end Go
namespace Go.Proofs.YthfdakglamgknaaDoor
open Go.RowKit Go.Extern.Stop Go.Stop Go.Extern

theorem c_K (w : World) : (callFunc 71 #[.agg #[.pointer (some ⟨4, 23, none⟩)]]).run Tryd.prog w = .ok (.value (.bool true)) w := by kernel_rfl
theorem c_S (w : World) : (callFunc 71 #[.agg #[.pointer (some ⟨4, 66, none⟩)]]).run Tryd.prog w = .ok (.value (.bool true)) w := by kernel_rfl
theorem compK : (Tryd.prog.info? 23).map (·.comparable) = some true := by kernel_rfl
theorem compS : (Tryd.prog.info? 66).map (·.comparable) = some true := by kernel_rfl
theorem sizeSS : (Tryd.prog.info? 68).map (·.size) = some 1 := by kernel_rfl
theorem eq_KK (a b : Int) (w : World) : (binOp .eql 27 (.iface 23 (.int .i64 a)) (.iface 23 (.int .i64 b))).run Tryd.prog w = .ok (.bool (a == b)) w := by
  obtain ⟨i, hi, hc⟩ := Option.map_eq_some_iff.1 compK
  exact flt_eql_iface_int w a b Tryd.underlying27 Tryd.underlying23 hi hc
theorem eq_FK (x y : Value) (w : World) : (binOp .eql 27 (.iface 29 x) (.iface 23 y)).run Tryd.prog w = .ok (.bool false) w := run_eql_iface_types 29 23 x y Tryd.underlying27 (by decide) w
theorem eq_SK (x y : Value) (w : World) : (binOp .eql 27 (.iface 66 x) (.iface 23 y)).run Tryd.prog w = .ok (.bool false) w := run_eql_iface_types 66 23 x y Tryd.underlying27 (by decide) w
theorem eq_FS (x y : Value) (w : World) : (binOp .eql 27 (.iface 29 x) (.iface 66 y)).run Tryd.prog w = .ok (.bool false) w := run_eql_iface_types 29 66 x y Tryd.underlying27 (by decide) w
theorem eq_SS (a : Addr) (w : World) : (binOp .eql 27 (.iface 66 (.pointer (some a))) (.iface 66 (.pointer (some a)))).run Tryd.prog w = .ok (.bool true) w := by
  obtain ⟨i, hi, hc⟩ := Option.map_eq_some_iff.1 compS
  obtain ⟨j, hj, _⟩ := Option.map_eq_some_iff.1 sizeSS
  exact run_eql_iface_ptr_same w a Tryd.underlying27 Tryd.underlying66 hi hc hj

set_option maxRecDepth 100000 in
set_option maxHeartbeats 4000000 in
theorem eis_K (k k2 : Int) (w : World) (l : List (ByteArray × Int)) (v : Value) (hch : Chain w (.iface 23 (.int .i64 k)) l v) :
    Calls Tryd.prog 28 #[v, .iface 23 (.int .i64 k2), .bool true] w fun ev w' => ev = .returned (.bool (k == k2)) ∧ w = w' := by
  have f1 := eq_KK; have f2 := eq_FK; have q0 := no_Is_F; have q1 := no_Is_K; have q2 := has_U_F; have q3 := m_Unwrap; have q4 := no_U_K; have q5 := no_UU_K
  have HC := Lib.hid hch
  clear hch
  go_enter Tryd.func28, Tryd.ntmps28
  go_wp2
  go_loopg [0] l.length (fun g p wr => wr = w ∧ ∃ r, r.length = g ∧ Chain w (.iface 23 (.int .i64 k)) r p)
  case atStart => exact ⟨rfl, l, rfl, HC.out⟩
  case round =>
    obtain ⟨rfl, r, hr, hc⟩ := hrel
    cases r with
    | nil =>
      obtain rfl := hc
      clear hr
      by_cases hk : (k == k2) = true
      · go_wp2
        go_ret
        exact ⟨by rw [hk]; rfl, rfl⟩
      · have hk' : (k == k2) = false := by simpa using hk
        clear hk
        go_wp2
        go_ret
        exact ⟨by rw [hk']; rfl, rfl⟩
    | cons x r =>
      obtain ⟨s, n⟩ := x
      obtain ⟨b, u, rfl, hb, hc⟩ := hc
      obtain ⟨T, y, rfl⟩ := hc.head (Last.kind k)
      have hcell : wr.cell? ⟨b, 2, none⟩ = some (.iface T y) := cell_of_block hb rfl
      have HC2 := Lib.hid hc
      have HR := Lib.hid hr
      clear hc hr hb
      go_wp2_with (go_at_call 12; refine (unwrap_any b _ _ hcell).mono ?_; rintro ev w' ⟨rfl, rfl⟩)
      go_roundg r.length
      case measure => have := HR.out; simp at this; omega
      case rel => exact ⟨rfl, r, rfl, HC2.out⟩

/- the same, over a chain that ends in an error of errors.New, asked for a kind -/
set_option maxRecDepth 100000 in
set_option maxHeartbeats 4000000 in
theorem eis_S (c : Nat) (w : World) (l : List (ByteArray × Int)) (v : Value) (hch : Chain w (.iface 66 (.pointer (some ⟨c, 0, none⟩))) l v) :
    Calls Tryd.prog 28 #[v, .iface 66 (.pointer (some ⟨c, 0, none⟩)), .bool true] w fun ev w' => ev = .returned (.bool true) ∧ w = w' := by
  have f1 := eq_SS; have f2 := eq_FS; have q0 := no_Is_F; have q2 := has_U_F; have q3 := m_Unwrap
  have HC := Lib.hid hch
  clear hch
  go_enter Tryd.func28, Tryd.ntmps28
  go_wp2
  go_loopg [0] l.length (fun g p wr => wr = w ∧ ∃ r, r.length = g ∧ Chain w (.iface 66 (.pointer (some ⟨c, 0, none⟩))) r p)
  case atStart => exact ⟨rfl, l, rfl, HC.out⟩
  case round =>
    obtain ⟨rfl, r, hr, hc⟩ := hrel
    cases r with
    | nil =>
      obtain rfl := hc
      clear hr
      go_wp2
      go_ret
      exact ⟨rfl, rfl⟩
    | cons x r =>
      obtain ⟨s, n⟩ := x
      obtain ⟨b, u, rfl, hb, hc⟩ := hc
      obtain ⟨T, y, rfl⟩ := hc.head (Last.str c)
      have hcell : wr.cell? ⟨b, 2, none⟩ = some (.iface T y) := cell_of_block hb rfl
      have HC2 := Lib.hid hc
      have HR := Lib.hid hr
      clear hc hr hb
      go_wp2_with (go_at_call 12; refine (unwrap_any b _ _ hcell).mono ?_; rintro ev w' ⟨rfl, rfl⟩)
      go_roundg r.length
      case measure => have := HR.out; simp at this; omega
      case rel => exact ⟨rfl, r, rfl, HC2.out⟩

set_option maxRecDepth 100000 in
set_option maxHeartbeats 1000000 in
theorem eIs_K (k k2 : Int) (w : World) (l : List (ByteArray × Int)) (v : Value) (hch : Chain w (.iface 23 (.int .i64 k)) l v) :
    Calls Tryd.prog 15 #[v, .iface 23 (.int .i64 k2)] w fun ev w' => ev = .returned (.bool (k == k2)) ∧ w = w' := by
  have h1 := x_TypeOf; have h2 := c_K; have f1 := to_K; have f2 := m_Comparable
  have HC := Lib.hid hch
  obtain ⟨T, y, rfl⟩ := hch.head (Last.kind k)
  clear hch
  go_enter Tryd.func15, Tryd.ntmps15
  go_wp2_with (go_at_call 28; refine (eis_K k k2 _ l _ HC.out).mono ?_; rintro ev w' ⟨rfl, rfl⟩)
  go_ret
  exact ⟨rfl, rfl⟩
set_option maxRecDepth 100000 in
set_option maxHeartbeats 1000000 in
theorem eIs_S (c : Nat) (w : World) (l : List (ByteArray × Int)) (v : Value) (hch : Chain w (.iface 66 (.pointer (some ⟨c, 0, none⟩))) l v) :
    Calls Tryd.prog 15 #[v, .iface 66 (.pointer (some ⟨c, 0, none⟩))] w fun ev w' => ev = .returned (.bool true) ∧ w = w' := by
  have h1 := x_TypeOf; have h2 := c_S; have f1 := to_S; have f2 := m_Comparable
  have HC := Lib.hid hch
  obtain ⟨T, y, rfl⟩ := hch.head (Last.str c)
  clear hch
  go_enter Tryd.func15, Tryd.ntmps15
  go_wp2_with (go_at_call 28; refine (eis_S c _ l _ HC.out).mono ?_; rintro ev w' ⟨rfl, rfl⟩)
  go_ret
  exact ⟨rfl, rfl⟩

/-! ### fault.Is -/
set_option maxRecDepth 100000 in
set_option maxHeartbeats 1000000 in
theorem fis_nil (k : Int) (w : World) : Calls Tryd.prog 14 #[.nilIface, .int .i64 k] w fun ev w' => ev = .returned (.bool (k == 0)) ∧ w = w' := by
  by_cases hk : (k == 0) = true
  · go_enter Tryd.func14, Tryd.ntmps14
    go_wp2
    go_ret
    exact ⟨by rw [hk]; rfl, rfl⟩
  · have hk' : (k == 0) = false := by simpa using hk
    clear hk
    go_enter Tryd.func14, Tryd.ntmps14
    go_wp2
    go_ret
    exact ⟨by rw [hk']; rfl, rfl⟩
set_option maxRecDepth 100000 in
set_option maxHeartbeats 1000000 in
theorem fis_ok (T : TypeId) (x : Value) (w : World) : Calls Tryd.prog 14 #[.iface T x, .int .i64 0] w fun ev w' => ev = .returned (.bool false) ∧ w = w' := by
  go_enter Tryd.func14, Tryd.ntmps14
  go_wp2
  go_ret
  exact ⟨rfl, rfl⟩
set_option maxRecDepth 100000 in
set_option maxHeartbeats 1000000 in
theorem fis_kind (k k2 : Int) (w : World) (l : List (ByteArray × Int)) (v : Value) (hch : Chain w (.iface 23 (.int .i64 k)) l v) (h2 : (k2 == 0) = false) :
    Calls Tryd.prog 14 #[v, .int .i64 k2] w fun ev w' => ev = .returned (.bool (k == k2)) ∧ w = w' := by
  have HC := Lib.hid hch
  obtain ⟨T, y, rfl⟩ := hch.head (Last.kind k)
  clear hch
  go_enter Tryd.func14, Tryd.ntmps14
  go_wp2_with (go_at_call 15; refine (eIs_K k k2 _ l _ HC.out).mono ?_; rintro ev w' ⟨rfl, rfl⟩)
  go_ret
  exact ⟨rfl, rfl⟩

/-! ### errors.New -/
set_option maxRecDepth 100000 in
set_option maxHeartbeats 1000000 in
theorem new_any (s : ByteArray) (w : World) : Calls Tryd.prog 16 #[.string s] w fun ev w' => ev = .returned (.iface 66 (.pointer (some ⟨w.heap.size, 0, none⟩))) ∧ w.alloc (.cells #[.string s] 68) = w' := by
  go_enter Tryd.func16, Tryd.ntmps16
  go_wp2
  go_ret
  exact ⟨rfl, rfl⟩
end Go.Proofs.YthfdakglamgknaaDoor
