/- FaultTexts: the law's contract. -/
import Derived.Test.YthfdakglamgknaaDoorFk
import Derived.Test.YthfdakglamgknaaDoorFl
namespace Go.Proofs.YthfdakglamgknaaDoor
open Go.RowKit

theorem light_yes (b off cap : Nat) (L : List Stp) (w : World) (hL : StepsAt w b off L) (h50 : L.length ≤ 50) (ht : tot L ≤ 5000) :
    Calls Tryd.prog 6 #[.slice (some ⟨b, off, none⟩) L.length cap] w fun ev w' => ev = .returned (.bool true) ∧ w = w' := by
  have h := light_any b off cap L w hL (by omega)
  have e : (decide ((L.length : Int) ≤ 50) && decide (wrap64 (tot L) ≤ 5000)) = true := by
    rw [IntWalk.wrap64_in _ (by omega)]
    simp; omega
  rw [e] at h
  exact h
theorem tot_bound (L : List Stp) (m : Nat) (h : ∀ x ∈ L, x.1.size ≤ m) : tot L ≤ L.length * m := by
  induction L with
  | nil => simp [tot]
  | cons x r ih =>
    have h1 := ih fun y hy => h y (List.mem_cons_of_mem _ hy)
    have h2 := h x (List.mem_cons_self ..)
    simp only [tot, List.length_cons, Nat.succ_mul]; omega
theorem light_no (b off cap : Nat) (L : List Stp) (w : World) (hL : StepsAt w b off L) (hm : L.length ≤ 9223372036854775807) (hr : ∀ x ∈ L, x.1.size ≤ 140737488355328) (hn : ¬ (L.length ≤ 50 ∧ tot L ≤ 5000)) :
    Calls Tryd.prog 6 #[.slice (some ⟨b, off, none⟩) L.length cap] w fun ev w' => ev = .returned (.bool false) ∧ w = w' := by
  have h := light_any b off cap L w hL hm
  have e : (decide ((L.length : Int) ≤ 50) && decide (wrap64 (tot L) ≤ 5000)) = false := by
    by_cases h50 : L.length ≤ 50
    · have h3 := tot_bound L _ hr
      have h4 : tot L ≤ 50 * 140737488355328 := Nat.le_trans h3 (Nat.mul_le_mul_right _ h50)
      rw [IntWalk.wrap64_in _ (by omega)]
      simp; omega
    · simp; omega
  rw [e] at h
  exact h

set_option maxRecDepth 100000 in
set_option maxHeartbeats 1000000 in
theorem texts_no (b off cap : Nat) (L : List Stp) (k : Int) (w : World) (hl : Lay w) (hL : StepsAt w b off L) (hm : L.length ≤ 9223372036854775807) (hr : ∀ x ∈ L, x.1.size ≤ 140737488355328) (hn : ¬ (L.length ≤ 50 ∧ tot L ≤ 5000)) :
    Calls Tryd.prog 3 #[.slice (some ⟨b, off, none⟩) L.length cap, .int .i64 k] w fun ev w' => ev = .returned (.bool true) ∧ Below w.heap.size w w' := by
  have H1 := Lib.hid (light_no b off cap L w hL hm hr hn)
  have H2 := Lib.hid (alive_any w hl)
  clear hl hL hm hr hn
  go_enter Tryd.func3, Tryd.ntmps3
  go_wp2_with (first | (go_at_call 6; refine H1.out.mono ?_; rintro e w' ⟨rfl, rfl⟩) | (go_at_call 7; refine H2.out.mono ?_; rintro e w' ⟨rfl, hb⟩))
  go_ret
  exact ⟨rfl, hb⟩

set_option maxRecDepth 100000 in
set_option maxHeartbeats 1000000 in
theorem texts_ok (b off cap : Nat) (L : List Stp) (w : World) (hl : Lay w) (hL : StepsAt w b off L) (h50 : L.length ≤ 50) (ht : tot L ≤ 5000) :
    Calls Tryd.prog 3 #[.slice (some ⟨b, off, none⟩) L.length cap, .int .i64 0] w fun ev w' => ev = .returned (.bool true) ∧ Below w.heap.size w w' := by
  have H1 := Lib.hid (light_yes b off cap L w hL h50 ht)
  have H2 := Lib.hid (alive_any w hl)
  clear hl hL h50 ht
  go_enter Tryd.func3, Tryd.ntmps3
  go_wp2_with (first | (go_at_call 6; refine H1.out.mono ?_; rintro e w' ⟨rfl, rfl⟩) | (go_at_call 7; refine H2.out.mono ?_; rintro e w' ⟨rfl, hb⟩))
  go_ret
  exact ⟨rfl, hb⟩
set_option maxRecDepth 100000 in
set_option maxHeartbeats 1000000 in
theorem texts_nil (ao : Option Addr) (cap : Nat) (k : Int) (w : World) (hl : Lay w) :
    Calls Tryd.prog 3 #[.slice ao 0 cap, .int .i64 k] w fun ev w' => ev = .returned (.bool true) ∧ Below w.heap.size w w' := by
  have H1 := Lib.hid (light_nil ao cap w)
  have H2 := Lib.hid (alive_any w hl)
  clear hl
  by_cases hk : (k == 0) = true
  · go_enter Tryd.func3, Tryd.ntmps3
    go_wp2_with (first | (go_at_call 6; refine H1.out.mono ?_; rintro e w' ⟨rfl, rfl⟩) | (go_at_call 7; refine H2.out.mono ?_; rintro e w' ⟨rfl, hb⟩))
    go_ret
    exact ⟨rfl, hb⟩
  · have hk' : (k == 0) = false := by simpa using hk
    clear hk
    go_enter Tryd.func3, Tryd.ntmps3
    go_wp2_with (first | (go_at_call 6; refine H1.out.mono ?_; rintro e w' ⟨rfl, rfl⟩) | (go_at_call 7; refine H2.out.mono ?_; rintro e w' ⟨rfl, hb⟩))
    go_ret
    exact ⟨rfl, hb⟩

theorem wrapped_ne (b off cap : Nat) (L : List Stp) (k : Int) (w : World) (x : Stp) (hL : StepsAt w b off L) (hbl : b < w.heap.size) (hm : L.length ≤ 9223372036854775807) (hk : (k == 0) = false) (hx : L[L.length - 1]? = some x) :
    Calls Tryd.prog 8 #[.slice (some ⟨b, off, none⟩) L.length cap, .int .i64 k] w fun e w' => ∃ c u, e = .returned (.iface 29 (.pointer (some ⟨c, 0, none⟩))) ∧ Below w.heap.size w w' ∧ Chain w' (.iface 23 (.int .i64 k)) L.reverse (.iface 29 (.pointer (some ⟨c, 0, none⟩))) ∧
      w'.heap[c]? = some (.cells #[.string x.1, .int .i64 x.2, u] 37 (0, 0)) ∧ ∃ T y, u = .iface T y := by
  refine (wrapped_any b off cap L k w hL hbl hm hk).mono ?_
  rintro e w' ⟨u, rfl, hb, hc⟩
  obtain ⟨r, hr⟩ : ∃ r, L.reverse = x :: r := by
    have : L.reverse[0]? = some x := by
      rw [List.getElem?_reverse (by have := (List.getElem?_eq_some_iff.1 hx).1; omega)]
      simpa using hx
    cases h : L.reverse with
    | nil => rw [h] at this; simp at this
    | cons y r => rw [h] at this; simp at this; exact ⟨r, by rw [this]⟩
  rw [hr] at hc ⊢
  obtain ⟨c, u', rfl, h2, h3⟩ := hc
  exact ⟨c, u', rfl, hb, ⟨c, u', rfl, h2, h3⟩, h2, h3.head (Last.kind k)⟩

theorem after_as {w1 w2 : World} {v : Value} (h : Below (w1.alloc (.cells #[.pointer none] 29)).heap.size (w1.alloc (.cells #[.pointer none] 29)) w2) :
    Below w1.heap.size w1 (w2.setCell ⟨w1.heap.size, 0, none⟩ v) ∧ (w2.setCell ⟨w1.heap.size, 0, none⟩ v).heap[w1.heap.size]? = some (.cells #[v] 29 (0, 0)) := by
  have hf : w2.heap[w1.heap.size]? = some (.cells #[.pointer none] 29 (0, 0)) := (h.block _ (by simp)).trans (heap_alloc_new _ _)
  refine ⟨((ext_alloc (Below.refl _ _) _).trans (h.mono (by simp))).setCell (by simp) _, ?_⟩
  simp [World.setCell, Array.getElem?_modify, hf]

set_option maxRecDepth 100000 in
set_option maxHeartbeats 4000000 in
theorem texts_main (b off cap : Nat) (L : List Stp) (k : Int) (w : World) (hl : Lay w) (hL : StepsAt w b off L) (hbl : b < w.heap.size) (h50 : L.length ≤ 50) (ht : tot L ≤ 5000) (hpos : 0 < L.length) (hk : (k == 0) = false) (hok : cOk L) (hk0 : -9223372036854775808 ≤ k) (hk1 : k ≤ 9223372036854775807) :
    Calls Tryd.prog 3 #[.slice (some ⟨b, off, none⟩) L.length cap, .int .i64 k] w fun ev w' => ev = .returned (.bool true) ∧ Below w.heap.size w w' := by
  have H1 := Lib.hid (light_yes b off cap L w hL h50 ht)
  have HL := Lib.hid hl
  have HS := Lib.hid hL
  have HO := Lib.hid hok
  have HT := Lib.hid ht
  obtain ⟨x, hx⟩ : ∃ x, L[L.length - 1]? = some x := ⟨_, List.getElem?_eq_getElem (by omega)⟩
  have HX := Lib.hid hx
  have H2 := Lib.hid (wrapped_ne b off cap L k w x hL hbl (by omega) hk hx)
  clear hl hL hok ht hx
  have hlen0 : ((L.length : Int) == 0) = false := by rw [beq_eq_false_iff_ne]; omega
  generalize hn : L.length = n at h50 hpos hlen0 HX ⊢
  have HN := Lib.hid hn
  rw [hn] at H1 H2
  clear hn
  go_enter Tryd.func3, Tryd.ntmps3
  go_wp2_with (first | (go_at_call 6; refine H1.out.mono ?_; rintro e w' ⟨rfl, rfl⟩) | (go_at_call 8; refine H2.out.mono ?_; rintro e w1 ⟨c, u, rfl, hb1, hc1, hc2, hc3⟩; have HB1 := Lib.hid hb1; have HC1 := Lib.hid hc1; have HC2 := Lib.hid hc2; have HC3 := Lib.hid hc3; clear hb1 hc1 hc2 hc3))
  refine (As_F _ _ (.pointer none) _ (((HL.out.later HB1.out).later (ext_alloc (Below.refl _ _) _)).et) (by simp) (by simp)).mono ?_
  rintro e w3 ⟨rfl, w2, hb2, rfl⟩
  obtain ⟨hbA, hfA⟩ := after_as (v := .pointer (some ⟨c, 0, none⟩)) hb2
  clear hb2
  generalize w2.setCell ⟨w1.heap.size, 0, none⟩ (.pointer (some ⟨c, 0, none⟩)) = W2 at hbA hfA ⊢
  have hb02 : Below w.heap.size w W2 := ext_trans HB1.out hbA
  have hcA := (hb02.cell (p := ⟨b, off + (n - 1) * 2, none⟩) hbl).trans (HS.out (n - 1) x HX.out).1
  have hcB := (hb02.cell (p := ⟨b, off + (n - 1) * 2 + 1, none⟩) hbl).trans (HS.out (n - 1) x HX.out).2
  have hcF : W2.cell? ⟨w1.heap.size, 0, none⟩ = some (.pointer (some ⟨c, 0, none⟩)) := cell_of_block hfA rfl
  have HFA := Lib.hid hfA
  have HBA := Lib.hid hbA
  have HB02 := Lib.hid hb02
  clear hbA hfA hb02
  go_wp2_with fail
  obtain ⟨W3, hW3⟩ : ∃ W3, W3 = W2.alloc (.cells #[.string x.1, .int .i64 x.2] 33) := ⟨_, rfl⟩
  have hb3 : Below W2.heap.size W2 W3 := by rw [hW3]; exact ext_alloc (Below.refl _ _) _
  have hlast : W3.heap[W2.heap.size]? = some (.cells #[.string x.1, .int .i64 x.2] 33 (0, 0)) := by rw [hW3]; exact heap_alloc_new _ _
  rw [← hW3]
  have hb23 := ext_trans HBA.out hb3
  have hb03 := ext_trans HB02.out hb3
  have hst : StepsAt W3 b off L := fun i y hy => ⟨(hb03.cell (p := ⟨b, off + i * 2, none⟩) hbl).trans (HS.out i y hy).1, (hb03.cell (p := ⟨b, off + i * 2 + 1, none⟩) hbl).trans (HS.out i y hy).2⟩
  have hch := HC1.out.later hb23
  have hc2 := (hb23.block _ (lt_block HC2.out)).trans HC2.out
  have hfA := (hb3.block _ (lt_block HFA.out)).trans HFA.out
  have hlay := HL.out.later hb03
  have hlen : cLen L ≤ 1099511627000 := by rw [cLen_tot]; have := HT.out; have := HN.out; omega
  -- the calls, from whatever world behind W3
  have hE : ∀ w4, Below W3.heap.size W3 w4 → Calls Tryd.prog 10 #[.pointer (some ⟨c, 0, none⟩)] w4 fun ev w' => ev = .returned (.string (txt (cTxt k L.reverse))) ∧ Below W3.heap.size W3 w' := fun w4 h4 =>
    (ferror_chain k L.reverse c w4 (by intro h; have := congrArg List.length h; simp at this; rw [this] at HN; have := HN.out; simp at this; omega) (hch.later h4) (fun y hy => HO.out y (List.mem_reverse.1 hy)) (by rw [cLen_rev]; exact hlen) (hlay.later h4).tab).mono fun e w' ⟨h1, h2⟩ => ⟨h1, ext_trans h4 h2⟩
  have hR : ∀ w4, Below W3.heap.size W3 w4 → Calls Tryd.prog 11 #[.slice (some ⟨b, off, none⟩) n cap, .int .i64 k] w4 fun ev w' => ev = .returned (.string (txt (cTxt k L.reverse))) ∧ Below W3.heap.size W3 w' := fun w4 h4 => by
    have := text_loop b off cap L k w4 (fun i y hy => ⟨(h4.cell (p := ⟨b, off + i * 2, none⟩) (Nat.lt_of_lt_of_le hbl hb03.size)).trans (hst i y hy).1, (h4.cell (p := ⟨b, off + i * 2 + 1, none⟩) (Nat.lt_of_lt_of_le hbl hb03.size)).trans (hst i y hy).2⟩) (Nat.lt_of_lt_of_le hbl (Nat.le_trans hb03.size h4.size)) HO.out hlen (by have := HN.out; omega) hk0 hk1
    rw [HN.out] at this
    exact this.mono fun e w' ⟨h1, h2⟩ => ⟨h1, ext_trans h4 h2⟩
  have hU : ∀ w4, Below W3.heap.size W3 w4 → Calls Tryd.prog 12 #[.pointer (some ⟨c, 0, none⟩)] w4 fun ev w' => ev = .returned u ∧ w4 = w' := fun w4 h4 =>
    unwrap_any c u w4 ((h4.cell (p := ⟨c, 2, none⟩) (lt_block hc2)).trans (cell_of_block hc2 rfl))
  have hA : ∀ w4, Below W3.heap.size W3 w4 → Calls Tryd.prog 7 #[] w4 fun ev w' => ev = .returned (.bool true) ∧ Below W3.heap.size W3 w' := fun w4 h4 =>
    (alive_any w4 (hlay.later h4)).mono fun e w' ⟨h1, h2⟩ => ⟨h1, ext_trans h4 h2⟩
  have hX : ∀ w4, Below W3.heap.size W3 w4 → w4.cell? ⟨w1.heap.size, 0, none⟩ = some (.pointer (some ⟨c, 0, none⟩)) ∧ w4.cell? ⟨c, 0, none⟩ = some (.string x.1) ∧ w4.cell? ⟨c, 1, none⟩ = some (.int .i64 x.2) ∧ w4.cell? ⟨W2.heap.size, 0, none⟩ = some (.string x.1) ∧ w4.cell? ⟨W2.heap.size, 1, none⟩ = some (.int .i64 x.2) := fun w4 h4 =>
    ⟨(h4.cell (p := ⟨w1.heap.size, 0, none⟩) (lt_block hfA)).trans (cell_of_block hfA rfl), (h4.cell (p := ⟨c, 0, none⟩) (lt_block hc2)).trans (cell_of_block hc2 rfl), (h4.cell (p := ⟨c, 1, none⟩) (lt_block hc2)).trans (cell_of_block hc2 rfl),
      (h4.cell (p := ⟨W2.heap.size, 0, none⟩) (lt_block hlast)).trans (cell_of_block hlast rfl), (h4.cell (p := ⟨W2.heap.size, 1, none⟩) (lt_block hlast)).trans (cell_of_block hlast rfl)⟩
  have HE := Lib.hid hE; have HR := Lib.hid hR; have HU := Lib.hid hU; have HA := Lib.hid hA; have HXX := Lib.hid hX
  have HB03 := Lib.hid hb03
  obtain ⟨T, y, hu⟩ := HC3.out
  have HHU := Lib.hid hu
  have hc0 := (hX W3 (Below.refl _ _)).1
  clear hE hR hU hA hX hb03 hu hlen hlay hfA hc2 hch hst hb23 hlast hb3 hW3 hcA hcB hcF
  go_region_with (first | (go_at_call 10; refine (HE.out _ ?_).mono ?_; exact (Below.refl _ _).drew; rintro e w4 ⟨rfl, hb4⟩) | (go_at_call 11; refine (HR.out _ ?_).mono ?_; assumption; rintro e w5 ⟨rfl, hb5⟩; obtain ⟨d0, d1, d2, d3, d4⟩ := HXX.out _ hb5) | (go_at_call 12; refine (HU.out _ ?_).mono ?_; assumption; rintro e w6 ⟨rfl, rfl⟩; rw [HHU.out]) | (go_at_call 7; refine (HA.out _ ?_).mono ?_; assumption; rintro e w7 ⟨rfl, hb7⟩))
  all_goals go_wp2
  all_goals go_ret
  all_goals exact ⟨rfl, ext_trans HB03.out hb7⟩
end Go.Proofs.YthfdakglamgknaaDoor
