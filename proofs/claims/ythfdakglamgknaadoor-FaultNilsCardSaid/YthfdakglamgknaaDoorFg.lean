/- filigreeref03.Digits is the decimal numeral, as strconv.Itoa writes it. -/
import Derived.Test.YthfdakglamgknaaDoorFa
import Derived.Lib.ItoaMem
import Derived.Lib.ItoaLen
namespace Go.Proofs.YthfdakglamgknaaDoor
open Go.RowKit

/-- a text from its bytes -/
def txt (l : List UInt8) : ByteArray := ⟨l.toArray⟩
theorem txt_app (a b : List UInt8) : txt a ++ txt b = txt (a ++ b) := ByteArray.mk_append_mk a b
theorem txt_size (a : List UInt8) : (txt a).size = a.length := by simp [txt, ByteArray.size]
theorem txt_inj {a b : List UInt8} (h : txt a = txt b) : a = b := by
  have := congrArg (fun s : ByteArray => s.data.toList) h
  simpa [txt] using this

theorem str_one (x : Int) (w : World) : (convert 72 9 (.slice (some ⟨w.heap.size, 0, none⟩) 1 1)).run Tryd.prog (w.alloc (.cells #[.int .u8 x] 5)) = .ok (.string (txt [UInt8.ofNat x.toNat])) (w.alloc (.cells #[.int .u8 x] 5)) := by
  have h := run_convert_bytes_arg (P := Tryd.prog) (w.alloc (.cells #[.int .u8 x] 5)) 72 5 Tryd.underlying72 Tryd.underlying5 w.heap.size 0 1 1 [x] rfl (fun i hi => by
    obtain rfl : i = 0 := by omega
    simp) 9 Tryd.underlying9
  rw [h]
  rfl

theorem tmod_neg (n : Int) (h : n < 0) : -9 ≤ n.tmod 10 ∧ n.tmod 10 ≤ 0 ∧ n.tmod 10 = -((n.natAbs % 10 : Nat) : Int) := by
  obtain ⟨m, rfl⟩ : ∃ m : Nat, n = -(m : Int) := ⟨n.natAbs, by omega⟩
  have : (-(m : Int)).tmod 10 = -((m % 10 : Nat) : Int) := by rw [Int.neg_tmod]; rfl
  refine ⟨by omega, by omega, ?_⟩; rw [this]; simp
theorem tdiv_neg (n : Int) (h : n < 0) : n.tdiv 10 = -((n.natAbs / 10 : Nat) : Int) := by
  obtain ⟨m, rfl⟩ : ∃ m : Nat, n = -(m : Int) := ⟨n.natAbs, by omega⟩
  rw [Int.neg_tdiv]; simp only [Int.natAbs_neg, Int.natAbs_natCast]; rfl

theorem itoa_pos1 (n : Int) (h0 : 0 ≤ n) (h : n < 10) : Lib.itoa n = [UInt8.ofNat (48 + n % 10).toNat] := by
  unfold Lib.itoa; rw [if_neg (by omega), Lib.decDigits_one (by omega)]
  congr 2; omega
theorem itoa_pos2 (n : Int) (h : ¬ n < 10) : Lib.itoa n = Lib.itoa (n / 10) ++ [UInt8.ofNat (48 + n % 10).toNat] := by
  unfold Lib.itoa; rw [if_neg (by omega), if_neg (by omega), Lib.decDigits, dif_neg (by omega), show n.toNat / 10 = (n / 10).toNat by omega]
  congr 3; omega
theorem itoa_neg1 (n : Int) (h0 : n < 0) (h : -10 < n) : Lib.itoa n = 45 :: [UInt8.ofNat (48 - n.tmod 10).toNat] := by
  unfold Lib.itoa; rw [if_pos h0, Lib.decDigits_one (by omega), (tmod_neg n h0).2.2]
  congr 3; omega
theorem itoa_neg2 (n : Int) (h : ¬ -10 < n) : Lib.itoa n = Lib.itoa (n.tdiv 10) ++ [UInt8.ofNat (48 - n.tmod 10).toNat] := by
  have h0 : n < 0 := by omega
  rw [(tmod_neg n h0).2.2, tdiv_neg n h0]
  unfold Lib.itoa; rw [if_pos h0, if_pos (by omega), Lib.decDigits, dif_neg (by omega)]
  rw [show (-((n.natAbs / 10 : Nat) : Int)).natAbs = n.natAbs / 10 by omega, List.cons_append]
  congr 4; omega

set_option maxRecDepth 100000 in
set_option maxHeartbeats 2000000 in
theorem digits_any (d : Nat) : ∀ (n : Int) (w : World), n.natAbs ≤ d → -9223372036854775808 ≤ n → n ≤ 9223372036854775807 →
    Calls Tryd.prog 20 #[.int .i64 n] w fun ev w' => ev = .returned (.string (txt (Lib.itoa n))) ∧ Below w.heap.size w w' := by
  induction d using Nat.strongRecOn with
  | _ d ih =>
    intro n w hd hlo hhi
    by_cases h0 : 0 ≤ n
    · have c1 := str_one (48 + n % 10)
      by_cases h1 : n < 10
      · have e1 := itoa_pos1 n h0 h1
        have E1 := Lib.hid e1; clear e1
        go_enter Tryd.func20, Tryd.ntmps20
        go_wp2_with fail
        go_ret
        exact ⟨by rw [E1.out]; rfl, ext_alloc (Below.refl _ _) _⟩
      · have E1 := Lib.hid (itoa_pos2 n h1)
        have hl := Lib.itoa_length_le (n / 10) (by omega) (by omega)
        have hs : (txt (Lib.itoa (n / 10))).size ≤ 21 := by rw [txt_size]; exact hl
        have hq : (txt [UInt8.ofNat (48 + n % 10).toNat]).size = 1 := txt_size _
        clear hl
        have IH := Lib.hid (ih (n / 10).natAbs (by omega) (n / 10) (w.alloc (.cells #[.int .u8 (48 + n % 10)] 5)) (Nat.le_refl _) (by omega) (by omega))
        clear ih
        go_enter Tryd.func20, Tryd.ntmps20
        go_wp2_with (go_at_call 20; refine IH.out.mono ?_; rintro e w' ⟨rfl, hb⟩)
        go_ret
        exact ⟨by rw [E1.out, ← txt_app]; rfl, (ext_alloc (Below.refl _ _) _).trans (hb.mono (by simp))⟩
    · have h0' : n < 0 := by omega
      have t1 := (tmod_neg n h0').1; have t2 := (tmod_neg n h0').2.1
      have c1 := str_one (48 - n.tmod 10)
      by_cases h1 : -10 < n
      · have E1 := Lib.hid (itoa_neg1 n h0' h1)
        have hq : (txt [UInt8.ofNat (48 - n.tmod 10).toNat]).size = 1 := txt_size _
        go_enter Tryd.func20, Tryd.ntmps20
        go_wp2_with fail
        go_ret
        exact ⟨by rw [E1.out, show (45 : UInt8) :: [UInt8.ofNat (48 - n.tmod 10).toNat] = [45] ++ [UInt8.ofNat (48 - n.tmod 10).toNat] from rfl, ← txt_app]; rfl, ext_alloc (Below.refl _ _) _⟩
      · have E1 := Lib.hid (itoa_neg2 n h1)
        have ht : n.tdiv 10 = -((n.natAbs / 10 : Nat) : Int) := tdiv_neg n h0'
        have hl := Lib.itoa_length_le (n.tdiv 10) (by omega) (by omega)
        have hs : (txt (Lib.itoa (n.tdiv 10))).size ≤ 21 := by rw [txt_size]; exact hl
        have hq : (txt [UInt8.ofNat (48 - n.tmod 10).toNat]).size = 1 := txt_size _
        have IH := Lib.hid (ih (n.tdiv 10).natAbs (by omega) (n.tdiv 10) (w.alloc (.cells #[.int .u8 (48 - n.tmod 10)] 5)) (Nat.le_refl _) (by omega) (by omega))
        clear ih hl ht
        go_enter Tryd.func20, Tryd.ntmps20
        go_wp2_with (go_at_call 20; refine IH.out.mono ?_; rintro e w' ⟨rfl, hb⟩)
        go_ret
        exact ⟨by rw [E1.out, ← txt_app]; rfl, (ext_alloc (Below.refl _ _) _).trans (hb.mono (by simp))⟩
end Go.Proofs.YthfdakglamgknaaDoor
