/- FaultKinds: the law's contract. -/
import Derived.Test.YthfdakglamgknaaDoorFk
import Derived.Test.YthfdakglamgknaaDoorFl
import Derived.Test.YthfdakglamgknaaDoorFm
namespace Go.Proofs.YthfdakglamgknaaDoor
open Go.RowKit

set_option maxRecDepth 100000 in
set_option maxHeartbeats 1000000 in
theorem kinds_no (b off cap : Nat) (L : List Stp) (k o : Int) (w : World) (hl : Lay w) (hL : StepsAt w b off L) (hm : L.length ≤ 9223372036854775807) (hr : ∀ x ∈ L, x.1.size ≤ 140737488355328) (hn : ¬ (L.length ≤ 50 ∧ tot L ≤ 5000)) :
    Calls Tryd.prog 4 #[.slice (some ⟨b, off, none⟩) L.length cap, .int .i64 k, .int .i64 o] w fun ev w' => ev = .returned (.bool true) ∧ Below w.heap.size w w' := by
  have H1 := Lib.hid (light_no b off cap L w hL hm hr hn)
  have H2 := Lib.hid (alive_any w hl)
  clear hl hL hm hr hn
  go_enter Tryd.func4, Tryd.ntmps4
  go_wp2_with (first | (go_at_call 6; refine H1.out.mono ?_; rintro e w' ⟨rfl, rfl⟩) | (go_at_call 7; refine H2.out.mono ?_; rintro e w' ⟨rfl, hb⟩))
  go_ret
  exact ⟨rfl, hb⟩

/- k is no kind, and it was wrapped: nil -/
set_option maxRecDepth 100000 in
set_option maxHeartbeats 1000000 in
theorem kinds_ok (b off cap : Nat) (L : List Stp) (o : Int) (w : World) (hl : Lay w) (hL : StepsAt w b off L) (h50 : L.length ≤ 50) (ht : tot L ≤ 5000) (hpos : 0 < L.length) :
    Calls Tryd.prog 4 #[.slice (some ⟨b, off, none⟩) L.length cap, .int .i64 0, .int .i64 o] w fun ev w' => ev = .returned (.bool true) ∧ Below w.heap.size w w' := by
  have H1 := Lib.hid (light_yes b off cap L w hL h50 ht)
  have H2 := Lib.hid (wrapped_ok b off cap L w hL (by omega) hpos)
  have HL := Lib.hid hl
  clear hl hL h50 ht
  have hp : (0 : Int) < L.length := by omega
  generalize L.length = n at hpos hp H1 H2 ⊢
  go_enter Tryd.func4, Tryd.ntmps4
  go_wp2_with (first | (go_at_call 6; refine H1.out.mono ?_; rintro e w' ⟨rfl, rfl⟩) | (go_at_call 8; refine H2.out.mono ?_; rintro e w1 ⟨rfl, hb1⟩; have HB1 := Lib.hid hb1; clear hb1) | (go_at_call 13; refine (of_nil _).mono ?_; rintro e w2 ⟨rfl, rfl⟩) | (go_at_call 7; refine (alive_any _ (HL.out.later HB1.out)).mono ?_; rintro e w3 ⟨rfl, hb3⟩))
  go_ret
  exact ⟨rfl, ext_trans HB1.out hb3⟩

/- k is no kind, and nothing was wrapped -/
set_option maxRecDepth 100000 in
set_option maxHeartbeats 1000000 in
theorem kinds_nil0 (ao : Option Addr) (cap : Nat) (o : Int) (w : World) (hl : Lay w) :
    Calls Tryd.prog 4 #[.slice ao 0 cap, .int .i64 0, .int .i64 o] w fun ev w' => ev = .returned (.bool true) ∧ Below w.heap.size w w' := by
  have H1 := Lib.hid (light_nil ao cap w)
  have H2 := Lib.hid (wrapped_nil ao cap 0 w)
  have H3 := Lib.hid (of_kind 0 [] _ w rfl hl.et)
  have HL := Lib.hid hl
  clear hl
  go_enter Tryd.func4, Tryd.ntmps4
  go_wp2_with (first | (go_at_call 6; refine H1.out.mono ?_; rintro e w' ⟨rfl, rfl⟩) | (go_at_call 8; refine H2.out.mono ?_; rintro e w1 ⟨rfl, rfl⟩) | (go_at_call 13; refine H3.out.mono ?_; rintro e w2 ⟨rfl, hb2⟩; have HB2 := Lib.hid hb2; clear hb2) | (go_at_call 7; refine (alive_any _ (HL.out.later HB2.out)).mono ?_; rintro e w3 ⟨rfl, hb3⟩))
  go_ret
  exact ⟨rfl, ext_trans HB2.out hb3⟩

theorem fis_any (k o : Int) (w : World) (l : List (ByteArray × Int)) (v : Value) (hk : (k == 0) = false) (hch : Chain w (.iface 23 (.int .i64 k)) l v) :
    Calls Tryd.prog 14 #[v, .int .i64 o] w fun ev w' => ev = .returned (.bool (o == k)) ∧ w = w' := by
  by_cases ho : o = 0
  · subst ho
    obtain ⟨T, y, rfl⟩ := hch.head (Last.kind k)
    have : ((0 : Int) == k) = false := by rw [beq_eq_false_iff_ne] at hk ⊢; omega
    rw [this]
    exact fis_ok T y w
  · have h := fis_kind k o w l v hch (by rw [beq_eq_false_iff_ne]; exact ho)
    rw [show (k == o) = (o == k) from by rw [Bool.eq_iff_iff, beq_iff_eq, beq_iff_eq]; exact eq_comm] at h
    exact h

set_option maxRecDepth 100000 in
set_option maxHeartbeats 4000000 in
theorem kinds_main (ao : Option Addr) (cap n : Nat) (l : List Stp) (k o : Int) (w : World) (hl : Lay w) (hk : (k == 0) = false)
    (h1 : Calls Tryd.prog 6 #[.slice ao n cap] w fun ev w' => ev = .returned (.bool true) ∧ w = w')
    (h2 : Calls Tryd.prog 8 #[.slice ao n cap, .int .i64 k] w fun e w' => ∃ u, e = .returned u ∧ Below w.heap.size w w' ∧ Chain w' (.iface 23 (.int .i64 k)) l u) :
    Calls Tryd.prog 4 #[.slice ao n cap, .int .i64 k, .int .i64 o] w fun ev w' => ev = .returned (.bool true) ∧ Below w.heap.size w w' := by
  have H1 := Lib.hid h1
  have H2 := Lib.hid h2
  have HL := Lib.hid hl
  have HK := Lib.hid hk
  clear hl h1 h2
  have hkk : (k == k) = true := by simp
  obtain ⟨q, hq⟩ : ∃ q, q = (o == k) := ⟨_, rfl⟩
  have HQ := Lib.hid hq
  clear hq
  go_enter Tryd.func4, Tryd.ntmps4
  go_wp2_with (first | (go_at_call 6; refine H1.out.mono ?_; rintro e w' ⟨rfl, rfl⟩) | (go_at_call 8; refine H2.out.mono ?_; rintro e w1 ⟨u, rfl, hb1, hc1⟩; have HB1 := Lib.hid hb1; have HC1 := Lib.hid hc1; obtain ⟨T, y, rfl⟩ := hc1.head (Last.kind k); clear hb1 hc1) | (go_at_call 13; refine (of_kind k l _ _ HC1.out (HL.out.later HB1.out).et).mono ?_; rintro e w2 ⟨rfl, hb2⟩; have HB2 := Lib.hid hb2; have HC2 := Lib.hid (HC1.out.later hb2); clear hb2))
  refine (fis_any k k _ l _ HK.out HC2.out).mono ?_
  rintro e w3 ⟨rfl, rfl⟩
  go_wp2_with fail
  refine (eIs_K k k _ l _ HC2.out).mono ?_
  rintro e w4 ⟨rfl, rfl⟩
  go_wp2_with fail
  refine (fis_any k o _ l _ HK.out HC2.out).mono ?_
  rintro e w5 ⟨rfl, rfl⟩
  go_wp2_with (go_at_call 7; refine (alive_any _ (HL.out.later (ext_trans HB1.out HB2.out))).mono ?_; rintro e w6 ⟨rfl, hb6⟩)
  go_ret
  exact ⟨rfl, ext_trans (ext_trans HB1.out HB2.out) hb6⟩

theorem kinds_any (ao : Option Addr) (cap : Nat) (L : List Stp) (k o : Int) (w : World) (hl : Lay w) (hm : L.length ≤ 9223372036854775807) (hr : ∀ x ∈ L, x.1.size ≤ 140737488355328)
    (hp : 0 < L.length → ∃ b off, ao = some ⟨b, off, none⟩ ∧ b < w.heap.size ∧ StepsAt w b off L) :
    Calls Tryd.prog 4 #[.slice ao L.length cap, .int .i64 k, .int .i64 o] w fun ev w' => ev = .returned (.bool true) ∧ Below w.heap.size w w' := by
  rcases Nat.eq_zero_or_pos L.length with h0 | hpos
  · rw [h0]
    by_cases hk : k = 0
    · subst hk; exact kinds_nil0 ao cap o w hl
    · exact kinds_main ao cap 0 [] k o w hl (by rw [beq_eq_false_iff_ne]; exact hk) (light_nil ao cap w) ((wrapped_nil ao cap k w).mono fun e w' ⟨h1, h2⟩ => ⟨_, h1, h2 ▸ Below.refl _ _, rfl⟩)
  obtain ⟨b, off, rfl, hb, hs⟩ := hp hpos
  by_cases hlight : L.length ≤ 50 ∧ tot L ≤ 5000
  · by_cases hk : k = 0
    · subst hk; exact kinds_ok b off cap L o w hl hs hlight.1 hlight.2 hpos
    · have hk' : (k == 0) = false := by rw [beq_eq_false_iff_ne]; exact hk
      exact kinds_main _ cap L.length L.reverse k o w hl hk' (light_yes b off cap L w hs hlight.1 hlight.2) (wrapped_any b off cap L k w hs hb hm hk')
  · exact kinds_no b off cap L k o w hl hs hm hr hlight
end Go.Proofs.YthfdakglamgknaaDoor
