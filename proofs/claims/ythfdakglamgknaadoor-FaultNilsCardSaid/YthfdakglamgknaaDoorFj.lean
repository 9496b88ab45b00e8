/- light, wrapped: over a slice of steps. -/
import Derived.Test.YthfdakglamgknaaDoorFi
import Derived.Deep.Light
namespace Go.Proofs.YthfdakglamgknaaDoor
open Go.RowKit

abbrev Stp := ByteArray × Int
/-- the steps lie at ⟨b, off⟩ -/
def StepsAt (w : World) (b off : Nat) (L : List Stp) : Prop := ∀ i x, L[i]? = some x → w.cell? ⟨b, off + i * 2, none⟩ = some (.string x.1) ∧ w.cell? ⟨b, off + i * 2 + 1, none⟩ = some (.int .i64 x.2)
def tot : List Stp → Nat
  | [] => 0
  | x :: r => x.1.size + tot r
theorem tot_app (a b : List Stp) : tot (a ++ b) = tot a + tot b := by
  induction a with
  | nil => simp [tot]
  | cons x r ih => simp [tot, ih]; omega
theorem tot_take (L : List Stp) (i : Nat) (x : Stp) (h : L[i]? = some x) : tot (L.take (i + 1)) = tot (L.take i) + x.1.size := by
  rw [List.take_add_one, h, tot_app]; simp [tot]
theorem wrap64_add (a b : Int) : wrap64 (wrap64 a + b) = wrap64 (a + b) := by unfold wrap64; omega

set_option maxRecDepth 100000 in
set_option maxHeartbeats 2000000 in
theorem light_any (b off cap : Nat) (L : List Stp) (w : World) (hL : StepsAt w b off L) (hm : L.length ≤ 9223372036854775807) :
    Calls Tryd.prog 6 #[.slice (some ⟨b, off, none⟩) L.length cap] w fun ev w' => ev = .returned (.bool (decide ((L.length : Int) ≤ 50) && decide (wrap64 (tot L) ≤ 5000))) ∧ w = w' := by
  have HL := Lib.hid hL
  clear hL
  generalize hn : L.length = n at hm ⊢
  have HN := Lib.hid hn
  clear hn
  go_enter Tryd.func6, Tryd.ntmps6
  go_wp2
  go_loopg [3, 4] n (fun g t i wr => wr = w ∧ ∃ k : Nat, k + g = n ∧ i = .int .i64 k ∧ t = .int .i64 (wrap64 (tot (L.take k))))
  case atStart => exact ⟨rfl, 0, by omega, rfl, by simp [tot, wrap64]⟩
  case round =>
    obtain ⟨rfl, k, hk, rfl, rfl⟩ := hrel
    by_cases hlt : k < n
    · obtain ⟨x, hx⟩ : ∃ x, L[k]? = some x := ⟨_, List.getElem?_eq_getElem (by have := HN.out; omega)⟩
      have hc := (HL.out k x hx).1
      have HX := Lib.hid hx
      have HK := Lib.hid hk
      clear hx hk
      go_wp2
      go_roundg (gk - 1)
      case measure => have := HK.out; omega
      case rel => exact ⟨rfl, k + 1, by have := HK.out; omega, by go_num, by rw [tot_take L k x HX.out]; simp [wrap64_add]⟩
    · have hkn : k = n := by omega
      have hg : L.take k = L := List.take_of_length_le (by have := HN.out; omega)
      rw [hg]
      clear hg
      subst hkn
      clear hk
      by_cases h50 : (k : Int) ≤ 50
      · have h50' : decide ((k : Int) ≤ 50) = true := by simpa using h50
        go_wp2
        go_ret
        exact ⟨by rw [h50']; simp, rfl⟩
      · have h50' : decide ((k : Int) ≤ 50) = false := by simpa using h50
        go_wp2
        go_ret
        exact ⟨rfl, rfl⟩

set_option maxRecDepth 100000 in
set_option maxHeartbeats 2000000 in
theorem light_nil (ao : Option Addr) (cap : Nat) (w : World) : Calls Tryd.prog 6 #[.slice ao 0 cap] w fun ev w' => ev = .returned (.bool true) ∧ w = w' := by
  go_enter Tryd.func6, Tryd.ntmps6
  go_wp2
  refine wp_loop_rounds 1 ?_
  rw [rounds_succ]
  go_wp2
  go_ret
  exact ⟨rfl, rfl⟩

/-! ### wrapped -/
set_option maxRecDepth 100000 in
set_option maxHeartbeats 400000 in
theorem wrap_chain (s : ByteArray) (n k : Int) (l : List Stp) (v : Value) (w : World) (hk : (k == 0) = false) (hc : Chain w (.iface 23 (.int .i64 k)) l v) :
    Calls Tryd.prog 17 #[.string s, .int .i64 n, v] w fun e w' => ∃ u, e = .returned u ∧ Below w.heap.size w w' ∧ Chain w' (.iface 23 (.int .i64 k)) ((s, n) :: l) u := by
  have fin : ∀ (e : Ending) (w' : World), e = .returned (.iface 29 (.pointer (some ⟨w.heap.size, 0, none⟩))) ∧ w.alloc (.cells #[.string s, .int .i64 n, v] 37) = w' → ∃ u, e = .returned u ∧ Below w.heap.size w w' ∧ Chain w' (.iface 23 (.int .i64 k)) ((s, n) :: l) u := by
    rintro e w' ⟨rfl, rfl⟩
    have hb := ext_alloc (Below.refl w.heap.size w) (.cells #[.string s, .int .i64 n, v] 37)
    exact ⟨_, rfl, hb, _, v, rfl, heap_alloc_new _ _, hc.later hb⟩
  cases l with
  | nil =>
    obtain rfl := hc
    exact (wrap_kind s n k w hk).mono fin
  | cons x r =>
    obtain ⟨c, u, rfl, h2, h3⟩ := hc
    exact (wrap_fault s n c w).mono fin

set_option maxRecDepth 100000 in
set_option maxHeartbeats 4000000 in
theorem wrapped_any (b off cap : Nat) (L : List Stp) (k : Int) (w : World) (hL : StepsAt w b off L) (hbl : b < w.heap.size) (hm : L.length ≤ 9223372036854775807) (hk : (k == 0) = false) :
    Calls Tryd.prog 8 #[.slice (some ⟨b, off, none⟩) L.length cap, .int .i64 k] w fun e w' => ∃ u, e = .returned u ∧ Below w.heap.size w w' ∧ Chain w' (.iface 23 (.int .i64 k)) L.reverse u := by
  have HL := Lib.hid hL
  clear hL
  have HK0 := Lib.hid hk
  clear hk
  generalize hn : L.length = n at hm ⊢
  have HN := Lib.hid hn
  clear hn
  go_enter Tryd.func8, Tryd.ntmps8
  go_wp2
  go_loopg [5, 6] n (fun g v i wr => ∃ k' : Nat, k' + g = n ∧ i = .int .i64 k' ∧ Hid (Below w.heap.size w wr) ∧ Hid (Chain wr (.iface 23 (.int .i64 k)) (L.take k').reverse v))
  case atStart => exact ⟨0, by omega, rfl, Lib.hid (Below.refl _ _), Lib.hid (by simp [Chain])⟩
  case round =>
    obtain ⟨k', hk, rfl, hbel, hch⟩ := hrel
    by_cases hlt : k' < n
    · obtain ⟨x, hx⟩ : ∃ x, L[k']? = some x := ⟨_, List.getElem?_eq_getElem (by have := HN.out; omega)⟩
      have hc0 := (hbel.out.cell (p := ⟨b, off + k' * 2, none⟩) hbl).trans (HL.out k' x hx).1
      have hc1 := (hbel.out.cell (p := ⟨b, off + k' * 2 + 1, none⟩) hbl).trans (HL.out k' x hx).2
      have HX := Lib.hid hx
      have HK := Lib.hid hk
      clear hx hk
      go_wp2_with fail
      go_region_with (go_at_call 17; refine (wrap_chain x.1 x.2 k (L.take k').reverse _ _ HK0.out ?_).mono ?_; exact hch.out.later (Below.refl _ _).drew; rintro e w' ⟨u, rfl, hb, hch2⟩; have HB := Lib.hid hb; have HC := Lib.hid hch2; clear hb hch2)
      all_goals
        go_wp2
        go_roundg (gk - 1)
        case measure => have := HK.out; omega
        case rel => exact ⟨k' + 1, by have := HK.out; omega, by go_num, Lib.hid (hbel.out.trans (((Below.refl _ _).drew.trans HB.out).mono hbel.out.size)), Lib.hid (by rw [List.take_add_one, HX.out]; simpa using HC.out)⟩
    · have hkn : k' = n := by omega
      have hg : L.take k' = L := List.take_of_length_le (by have := HN.out; omega)
      rw [hg] at hch
      clear hg
      subst hkn
      clear hk
      go_wp2
      go_ret
      exact ⟨_, rfl, hbel.out, hch.out⟩
end Go.Proofs.YthfdakglamgknaaDoor
