/- FaultNils: the law's contract. -/
import Derived.Test.YthfdakglamgknaaDoorFt
import Derived.Test.YthfdakglamgknaaDoorFl
import Derived.Test.YthfdakglamgknaaDoorFg
namespace Go.Proofs.YthfdakglamgknaaDoor
open Go.RowKit

set_option maxRecDepth 100000 in
set_option maxHeartbeats 1000000 in
theorem nils_long (t s : ByteArray) (n : Int) (w : World) (hl : Lay w) (h : 1000 < t.size ∨ 1000 < s.size) (h1 : t.size ≤ 9223372036854775807) (h2 : s.size ≤ 9223372036854775807) :
    Calls Tryd.prog 5 #[.string t, .string s, .int .i64 n] w fun ev w' => ev = .returned (.bool true) ∧ Below w.heap.size w w' := by
  have H2 := Lib.hid (alive_any w hl)
  clear hl
  by_cases ht : 1000 < t.size
  · have ht' : (1000 : Int) < t.size := by omega
    clear h
    go_enter Tryd.func5, Tryd.ntmps5
    go_wp2_with (go_at_call 7; refine H2.out.mono ?_; rintro e w' ⟨rfl, hb⟩)
    go_ret
    exact ⟨rfl, hb⟩
  · have ht' : ¬ (1000 : Int) < t.size := by omega
    have hs' : (1000 : Int) < s.size := by omega
    clear h
    go_enter Tryd.func5, Tryd.ntmps5
    go_wp2_with (go_at_call 7; refine H2.out.mono ?_; rintro e w' ⟨rfl, hb⟩)
    go_ret
    exact ⟨rfl, hb⟩

set_option maxRecDepth 100000 in
set_option maxHeartbeats 4000000 in
theorem nils_main (t s : ByteArray) (n : Int) (w : World) (hl : Lay w) (h1 : t.size ≤ 1000) (h2 : s.size ≤ 1000) (h0 : -9223372036854775808 ≤ n) (h3 : n ≤ 9223372036854775807) :
    Calls Tryd.prog 5 #[.string t, .string s, .int .i64 n] w fun ev w' => ev = .returned (.bool true) ∧ Below w.heap.size w w' := by
  obtain ⟨W, hW⟩ : ∃ W, W = ((w.alloc (.cells #[.string t] 68)).alloc (.cells #[.string s, .int .i64 n, .iface 66 (.pointer (some ⟨w.heap.size, 0, none⟩))] 37)).alloc (.cells #[.string s, .int .i64 n, .nilIface] 37) := ⟨_, rfl⟩
  have hbW : Below w.heap.size w W := by rw [hW]; exact ext_alloc (ext_alloc (ext_alloc (Below.refl _ _) _) _) _
  have hsz : W.heap.size = w.heap.size + 1 + 1 + 1 := by rw [hW]; simp
  have hblk : W.heap[w.heap.size + 1]? = some (.cells #[.string s, .int .i64 n, .iface 66 (.pointer (some ⟨w.heap.size, 0, none⟩))] 37 (0, 0)) := by
    rw [hW, Below.heap_alloc _ _ _ (by simp)]
    have := heap_alloc_new (w.alloc (.cells #[.string t] 68)) (.cells #[.string s, .int .i64 n, .iface 66 (.pointer (some ⟨w.heap.size, 0, none⟩))] 37); simpa using this
  have hbare : W.heap[w.heap.size + 1 + 1]? = some (.cells #[.string s, .int .i64 n, .nilIface] 37 (0, 0)) := by
    rw [hW]
    have := heap_alloc_new ((w.alloc (.cells #[.string t] 68)).alloc (.cells #[.string s, .int .i64 n, .iface 66 (.pointer (some ⟨w.heap.size, 0, none⟩))] 37)) (.cells #[.string s, .int .i64 n, .nilIface] 37); simpa using this
  have hodd : Chain W (.iface 66 (.pointer (some ⟨w.heap.size, 0, none⟩))) [] (.iface 66 (.pointer (some ⟨w.heap.size, 0, none⟩))) := rfl
  have hch : Chain W (.iface 66 (.pointer (some ⟨w.heap.size, 0, none⟩))) [(s, n)] (.iface 29 (.pointer (some ⟨w.heap.size + 1, 0, none⟩))) := ⟨_, _, rfl, hblk, rfl⟩
  have hlW := hl.later hbW
  have hpl : (placeOf s [(s, n)]).getD (-1) = n := by simp [placeOf]
  have hsz1 : (txt (Lib.itoa n)).size ≤ 21 := by rw [txt_size]; exact Lib.itoa_length_le n h0 h3
  have hpt : s ++ { data := #[32] } ++ txt (Lib.itoa n) ++ { data := #[58, 32] } = txt (pTxt s n) := pTxt_eq s n
  have c1 : ∀ w2, Below W.heap.size W w2 → Calls Tryd.prog 13 #[.iface 66 (.pointer (some ⟨w.heap.size, 0, none⟩))] w2 fun e w' => e = .returned (.int .i64 1) ∧ Below W.heap.size W w' := fun w2 hb => (of_str _ [] _ w2 (hodd.later hb) (hlW.later hb).et).mono fun _ _ ⟨a, b⟩ => ⟨a, ext_trans hb b⟩
  have c2 : ∀ w2, Below W.heap.size W w2 → Calls Tryd.prog 13 #[.iface 29 (.pointer (some ⟨w.heap.size + 1, 0, none⟩))] w2 fun e w' => e = .returned (.int .i64 1) ∧ Below W.heap.size W w' := fun w2 hb => (of_str _ _ _ w2 (hch.later hb) (hlW.later hb).et).mono fun _ _ ⟨a, b⟩ => ⟨a, ext_trans hb b⟩
  have c3 : ∀ w2, Below W.heap.size W w2 → Calls Tryd.prog 15 #[.iface 29 (.pointer (some ⟨w.heap.size + 1, 0, none⟩)), .iface 66 (.pointer (some ⟨w.heap.size, 0, none⟩))] w2 fun e w' => e = .returned (.bool true) ∧ w2 = w' := fun w2 hb => eIs_S _ w2 _ _ (hch.later hb)
  have c4 : ∀ w2, Below W.heap.size W w2 → Calls Tryd.prog 19 #[.iface 29 (.pointer (some ⟨w.heap.size + 1, 0, none⟩)), .string s] w2 fun e w' => e = .returned (.int .i64 n) ∧ Below W.heap.size W w' := fun w2 hb => by
    have := place_any _ (Last.str _) _ _ s w2 (hch.later hb)
    rw [hpl] at this
    exact this.mono fun _ _ ⟨a, b⟩ => ⟨a, ext_trans hb b⟩
  have c5 : ∀ w2, Below W.heap.size W w2 → Calls Tryd.prog 10 #[.pointer (some ⟨w.heap.size + 1 + 1, 0, none⟩)] w2 fun e w' => e = .returned (.string (txt (pTxt s n))) ∧ Below W.heap.size W w' := fun w2 hb =>
    (ferror_bare _ s n w2 ((hb.block _ (by omega)).trans hbare) (by omega) h0 h3 (hlW.later hb).tab).mono fun _ _ ⟨a, b⟩ => ⟨a, ext_trans hb b⟩
  have c6 : ∀ w2, Below W.heap.size W w2 → Calls Tryd.prog 20 #[.int .i64 n] w2 fun e w' => e = .returned (.string (txt (Lib.itoa n))) ∧ Below W.heap.size W w' := fun w2 hb =>
    (digits_any _ n w2 (Nat.le_refl _) h0 h3).mono fun _ _ ⟨a, b⟩ => ⟨a, ext_trans hb b⟩
  have c7 : ∀ w2, Below W.heap.size W w2 → Calls Tryd.prog 12 #[.pointer (some ⟨w.heap.size + 1 + 1, 0, none⟩)] w2 fun e w' => e = .returned .nilIface ∧ w2 = w' := fun w2 hb =>
    unwrap_any _ _ w2 (cell_of_block ((hb.block _ (by omega)).trans hbare) rfl)
  have c8 : ∀ w2, Below W.heap.size W w2 → Calls Tryd.prog 7 #[] w2 fun e w' => e = .returned (.bool true) ∧ Below W.heap.size W w' := fun w2 hb => (alive_any w2 (hlW.later hb)).mono fun _ _ ⟨a, b⟩ => ⟨a, ext_trans hb b⟩
  have c9 : ∀ w2, Below W.heap.size W w2 → Calls Tryd.prog 18 #[.nilIface] w2 fun e w' => e = .returned (.slice none 0 0) ∧ Below W.heap.size W w' := fun w2 hb => (trail_nil w2).mono fun _ _ ⟨a, b⟩ => ⟨a, ext_trans hb b⟩
  have c10 : ∀ w2, Below W.heap.size W w2 → Calls Tryd.prog 19 #[.nilIface, .string s] w2 fun e w' => e = .returned (.int .i64 (-1)) ∧ Below W.heap.size W w' := fun w2 hb => (place_nil s w2).mono fun _ _ ⟨a, b⟩ => ⟨a, ext_trans hb b⟩
  have C1 := Lib.hid c1; have C2 := Lib.hid c2; have C3 := Lib.hid c3; have C4 := Lib.hid c4; have C5 := Lib.hid c5; have C6 := Lib.hid c6; have C7 := Lib.hid c7; have C8 := Lib.hid c8; have C9 := Lib.hid c9; have C10 := Lib.hid c10
  have HW := Lib.hid hW
  have HB := Lib.hid hbW
  have HP := Lib.hid hpt
  have t1 : ¬ (1000 : Int) < t.size := by omega
  have t2 : ¬ (1000 : Int) < s.size := by omega
  have t3 : s.size ≤ 1000 := h2
  clear c1 c2 c3 c4 c5 c6 c7 c8 c9 c10 hW hbW hsz hblk hbare hodd hch hlW hpl hpt hl h1 h2
  have hb0 : Below W.heap.size W W := Below.refl _ _
  have e0 : (txt []).toList.isEmpty = true := by decide +kernel
  go_enter Tryd.func5, Tryd.ntmps5
  go_wp2_with (first | (go_at_call 16; refine (new_any t _).mono ?_; rintro e w' ⟨rfl, rfl⟩) | (go_at_call 17; refine (wrap_err s n _ _).mono ?_; rintro e w' ⟨rfl, rfl⟩))
  rw [← HW.out]
  refine (ferror_nil _).mono ?_
  rintro e w' ⟨rfl, rfl⟩
  go_wp2_with fail
  refine (unwrap_nil _).mono ?_
  rintro e w' ⟨rfl, rfl⟩
  go_wp2_with fail
  refine (of_nil _).mono ?_
  rintro e w' ⟨rfl, rfl⟩
  go_wp2_with fail
  refine (fis_nil 0 _).mono ?_
  rintro e w' ⟨rfl, rfl⟩
  go_wp2_with fail
  refine (fis_nil 6 _).mono ?_
  rintro e w' ⟨rfl, rfl⟩
  go_wp2_with fail
  refine (C9.out _ hb0).mono ?_
  rintro e w1 ⟨rfl, hb1⟩
  go_wp2_with fail
  refine (C10.out _ hb1).mono ?_
  rintro e w2 ⟨rfl, hb2⟩
  go_wp2_with fail
  refine (C1.out _ hb2).mono ?_
  rintro e w3 ⟨rfl, hb3⟩
  go_wp2_with fail
  refine (C2.out _ hb3).mono ?_
  rintro e w4 ⟨rfl, hb4⟩
  go_wp2_with fail
  refine (fis_ok _ _ _).mono ?_
  rintro e w' ⟨rfl, rfl⟩
  go_wp2_with fail
  refine (C3.out _ hb4).mono ?_
  rintro e w' ⟨rfl, rfl⟩
  go_wp2_with fail
  refine (C4.out _ hb4).mono ?_
  rintro e w5 ⟨rfl, hb5⟩
  go_wp2_with fail
  refine (C5.out _ hb5).mono ?_
  rintro e w6 ⟨rfl, hb6⟩
  go_wp2_with fail
  refine (C6.out _ hb6).mono ?_
  rintro e w7 ⟨rfl, hb7⟩
  have hpt := HP.out
  go_wp2_with fail
  clear hpt
  refine (C7.out _ hb7).mono ?_
  rintro e w' ⟨rfl, rfl⟩
  go_wp2_with fail
  refine (C8.out _ hb7).mono ?_
  rintro e w8 ⟨rfl, hb8⟩
  go_wp2_with fail
  go_ret
  exact ⟨rfl, ext_trans HB.out hb8⟩

theorem nils_any (t s : ByteArray) (n : Int) (w : World) (hl : Lay w) (h1 : t.size ≤ 9223372036854775807) (h2 : s.size ≤ 9223372036854775807) (h0 : -9223372036854775808 ≤ n) (h3 : n ≤ 9223372036854775807) :
    Calls Tryd.prog 5 #[.string t, .string s, .int .i64 n] w fun ev w' => ev = .returned (.bool true) ∧ Below w.heap.size w w' := by
  by_cases h : 1000 < t.size ∨ 1000 < s.size
  · exact nils_long t s n w hl h h1 h2
  · exact nils_main t s n w hl (by omega) (by omega) h0 h3
end Go.Proofs.YthfdakglamgknaaDoor
