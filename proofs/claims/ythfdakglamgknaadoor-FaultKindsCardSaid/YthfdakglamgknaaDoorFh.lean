/- the text of a kind. -/
import Derived.Test.YthfdakglamgknaaDoorFg
import Derived.Deep.RegionWith
import Derived.Lib.Hide
namespace Go.Proofs.YthfdakglamgknaaDoor
open Go.RowKit

def kNum (k : Int) : List UInt8 := if k < 0 ∨ 999 < k then [63] else Lib.itoa k
def kTxt (k : Int) : List UInt8 := [102, 105, 108, 105, 103, 114, 101, 101, 32, 101, 114, 114, 111, 114, 32] ++ kNum k
theorem kNum_len (k : Int) : (kNum k).length ≤ 21 := by
  unfold kNum
  split
  · decide
  · exact Lib.itoa_length_le k (by omega) (by omega)
theorem str_at (x : Int) (b : Nat) (w : World) (h : w.cell? ⟨b, 0, none⟩ = some (.int .u8 x)) : (convert 72 9 (.slice (some ⟨b, 0, none⟩) 1 1)).run Tryd.prog w = .ok (.string (txt [UInt8.ofNat x.toNat])) w := by
  have h := run_convert_bytes_arg (P := Tryd.prog) w 72 5 Tryd.underlying72 Tryd.underlying5 b 0 1 1 [x] rfl (fun i hi => by
    obtain rfl : i = 0 := by omega
    simpa using h) 9 Tryd.underlying9
  rw [h]
  rfl

set_option maxRecDepth 100000 in
set_option maxHeartbeats 2000000 in
theorem number_bad (n : Int) (w : World) (h : n < 0 ∨ 999 < n) : Calls Tryd.prog 35 #[.int .i64 n] w fun ev w' => ev = .returned (.string (txt [63])) ∧ w = w' := by
  rcases h with h | h
  · go_enter Tryd.func35, Tryd.ntmps35
    go_wp2_with fail
    go_ret
    exact ⟨rfl, rfl⟩
  · have h' : ¬ n < 0 := by omega
    go_enter Tryd.func35, Tryd.ntmps35
    go_wp2_with fail
    go_ret
    exact ⟨rfl, rfl⟩
set_option maxRecDepth 100000 in
set_option maxHeartbeats 2000000 in
theorem number_one (n : Int) (w : World) (h : 0 ≤ n) (h1 : n < 10) : Calls Tryd.prog 35 #[.int .i64 n] w fun ev w' => ev = .returned (.string (txt (Lib.itoa n))) ∧ Below w.heap.size w w' := by
  have c1 := str_one (48 + n)
  have E1 := Lib.hid (itoa_pos1 n h h1)
  have h2 : n ≤ 999 := by omega
  go_enter Tryd.func35, Tryd.ntmps35
  go_wp2_with fail
  go_ret
  exact ⟨by rw [E1.out, show (48 + n % 10).toNat = (48 + n).toNat by omega]; rfl, ext_alloc (Below.refl _ _) _⟩
theorem new_kept {w w' : World} {c : Array Value} {T : TypeId} {v : Value} (h : Below (w.alloc (.cells c T)).drew.heap.size (w.alloc (.cells c T)).drew w') (hv : c[0]? = some v) : w'.cell? ⟨w.heap.size, 0, none⟩ = some v :=
  (h.cell (p := ⟨w.heap.size, 0, none⟩) (by simp)).trans (by simp [hv])

set_option maxRecDepth 100000 in
set_option maxHeartbeats 4000000 in
theorem number_step (n : Int) (w : World) (h : 10 ≤ n) (h1 : n ≤ 999)
    (ih : ∀ w, Calls Tryd.prog 35 #[.int .i64 (n / 10)] w fun ev w' => ev = .returned (.string (txt (Lib.itoa (n / 10)))) ∧ Below w.heap.size w w') :
    Calls Tryd.prog 35 #[.int .i64 n] w fun ev w' => ev = .returned (.string (txt (Lib.itoa n))) ∧ Below w.heap.size w w' := by
  have c1 := str_at (48 + n % 10)
  have E1 := Lib.hid (itoa_pos2 n (by omega))
  have h2 : ¬ n < 10 := by omega
  have h3 : ¬ n < 0 := by omega
  have hs : (txt (Lib.itoa (n / 10))).size ≤ 21 := by rw [txt_size]; exact Lib.itoa_length_le (n / 10) (by omega) (by omega)
  have hq : (txt [UInt8.ofNat (48 + n % 10).toNat]).size = 1 := txt_size _
  have e1 : IntKind.i64.wrap (n.tdiv 10) = n / 10 := by rw [Int.tdiv_eq_ediv_of_nonneg (by omega)]; exact IntWalk.i64_in _ (by omega)
  have e2 : IntKind.u8.wrap (IntKind.i64.wrap (48 + n.tmod 10)) = 48 + n % 10 := by rw [Int.tmod_eq_emod_of_nonneg (by omega), IntWalk.i64_in _ (by omega)]; exact IntWalk.u8_in _ (by omega)
  have IH := Lib.hid ih
  clear ih
  go_enter Tryd.func35, Tryd.ntmps35
  go_wp2_with fail
  go_region_with (go_at_call 35; refine (IH.out _).mono ?_; rintro e w' ⟨rfl, hb⟩; have hsz := hb.size; first | (have hcx := new_kept hb rfl) | skip)
  all_goals go_wp2
  all_goals go_ret
  all_goals refine ⟨by rw [E1.out, ← txt_app]; rfl, ?_⟩
  all_goals first | exact ext_alloc (ext_trans (Below.refl _ _).drew hb) _ | exact (ext_alloc (Below.refl _ _) _).drew.trans (hb.mono (by simp))
theorem number_any (n : Int) (w : World) : Calls Tryd.prog 35 #[.int .i64 n] w fun ev w' => ev = .returned (.string (txt (kNum n))) ∧ Below w.heap.size w w' := by
  by_cases h : n < 0 ∨ 999 < n
  · have : kNum n = [63] := if_pos h
    rw [this]
    exact (number_bad n w h).mono fun e w' ⟨h1, h2⟩ => ⟨h1, h2 ▸ Below.refl _ _⟩
  · have : kNum n = Lib.itoa n := if_neg h
    rw [this]
    by_cases h1 : n < 10
    · exact number_one n w (by omega) h1
    · refine number_step n w (by omega) (by omega) fun w => ?_
      by_cases h2 : n < 100
      · exact number_one (n / 10) w (by omega) (by omega)
      · exact number_step (n / 10) w (by omega) (by omega) fun w => number_one (n / 10 / 10) w (by omega) (by omega)

set_option maxRecDepth 100000 in
set_option maxHeartbeats 1000000 in
theorem kerror_any (k : Int) (w : World) : Calls Tryd.prog 26 #[.int .i64 k] w fun ev w' => ev = .returned (.string (txt (kTxt k))) ∧ Below w.heap.size w w' := by
  have hs : (txt (kNum k)).size ≤ 21 := by rw [txt_size]; exact kNum_len k
  go_enter Tryd.func26, Tryd.ntmps26
  go_wp2_with (go_at_call 35; refine (number_any k _).mono ?_; rintro e w' ⟨rfl, hb⟩)
  go_ret
  exact ⟨by unfold kTxt; rw [← txt_app]; rfl, hb⟩
end Go.Proofs.YthfdakglamgknaaDoor
