/- wrapped at no kind; filigreeref03.Text. -/
import Derived.Test.YthfdakglamgknaaDoorFj
namespace Go.Proofs.YthfdakglamgknaaDoor
open Go.RowKit

set_option maxRecDepth 100000 in
set_option maxHeartbeats 2000000 in
theorem wrapped_nil (ao : Option Addr) (cap : Nat) (k : Int) (w : World) : Calls Tryd.prog 8 #[.slice ao 0 cap, .int .i64 k] w fun ev w' => ev = .returned (.iface 23 (.int .i64 k)) ∧ w = w' := by
  go_enter Tryd.func8, Tryd.ntmps8
  go_wp2
  refine wp_loop_rounds 1 ?_
  rw [rounds_succ]
  go_wp2
  go_ret
  exact ⟨rfl, rfl⟩

def okVal (k : Nat) : Value := if k = 0 then .iface 23 (.int .i64 0) else .nilIface
theorem wrap_okVal (s : ByteArray) (n : Int) (k : Nat) (w : World) : Calls Tryd.prog 17 #[.string s, .int .i64 n, okVal k] w fun e w' => e = .returned .nilIface ∧ w = w' := by
  unfold okVal
  split
  · exact wrap_ok s n w
  · exact wrap_nil s n w

set_option maxRecDepth 100000 in
set_option maxHeartbeats 4000000 in
theorem wrapped_ok (b off cap : Nat) (L : List Stp) (w : World) (hL : StepsAt w b off L) (hm : L.length ≤ 9223372036854775807) (h0 : 0 < L.length) :
    Calls Tryd.prog 8 #[.slice (some ⟨b, off, none⟩) L.length cap, .int .i64 0] w fun e w' => e = .returned .nilIface ∧ Below w.heap.size w w' := by
  have HL := Lib.hid hL
  clear hL
  generalize hn : L.length = n at hm h0 ⊢
  have HN := Lib.hid hn
  clear hn
  go_enter Tryd.func8, Tryd.ntmps8
  go_wp2
  go_loopg [5, 6] n (fun g v i wr => ∃ k' : Nat, k' + g = n ∧ i = .int .i64 k' ∧ Hid (Below w.heap.size w wr) ∧ Hid (StepsAt wr b off L) ∧ v = okVal k')
  case atStart => exact ⟨0, by omega, rfl, Lib.hid (Below.refl _ _), HL, rfl⟩
  case round =>
    obtain ⟨k', hk, rfl, hbel, hst, rfl⟩ := hrel
    by_cases hlt : k' < n
    · obtain ⟨x, hx⟩ : ∃ x, L[k']? = some x := ⟨_, List.getElem?_eq_getElem (by have := HN.out; omega)⟩
      have hc0 := (hst.out k' x hx).1
      have hc1 := (hst.out k' x hx).2
      have HX := Lib.hid hx
      have HK := Lib.hid hk
      clear hx hk
      go_wp2_with fail
      go_region_with (go_at_call 17; refine (wrap_okVal x.1 x.2 k' _).mono ?_; rintro e w' ⟨rfl, rfl⟩)
      all_goals
        go_wp2
        go_roundg (gk - 1)
        case measure => have := HK.out; omega
        case rel => exact ⟨k' + 1, by have := HK.out; omega, by go_num, Lib.hid hbel.out.drew, Lib.hid fun i x hi => hst.out i x hi, rfl⟩
    · have hkn : k' = n := by omega
      have hv : okVal k' = .nilIface := if_neg (by omega)
      subst hkn
      clear hk
      go_wp2
      go_ret
      exact ⟨by rw [← hv]; rfl, hbel.out⟩

/-! ### the reference's text -/
theorem cLen_app (a b : List Stp) : cLen (a ++ b) = cLen a + cLen b := by
  induction a with
  | nil => simp [cLen]
  | cons x r ih => simp only [List.cons_append, cLen, ih]; omega
theorem cLen_rev (a : List Stp) : cLen a.reverse = cLen a := by
  induction a with
  | nil => rfl
  | cons x r ih => rw [List.reverse_cons, cLen_app, ih]; simp only [cLen]; omega
theorem cLen_tot (a : List Stp) : cLen a = tot a + 24 * a.length := by
  induction a with
  | nil => rfl
  | cons x r ih => simp only [cLen, tot, List.length_cons, ih]; omega
theorem cLen_take (a : List Stp) (i : Nat) : cLen (a.take i) ≤ cLen a := by
  have := cLen_app (a.take i) (a.drop i)
  rw [List.take_append_drop] at this; omega
theorem cOk_rev {a : List Stp} (h : cOk a) (i : Nat) : cOk (a.take i).reverse := fun x hx => h x (List.mem_of_mem_take (List.mem_reverse.1 hx))

set_option maxRecDepth 100000 in
set_option maxHeartbeats 4000000 in
theorem text_loop (b off cap : Nat) (L : List Stp) (k : Int) (w : World) (hL : StepsAt w b off L) (hbl : b < w.heap.size) (hok : cOk L) (hlen : cLen L ≤ 1099511627000) (hm : L.length ≤ 9223372036854775807) (hk0 : -9223372036854775808 ≤ k) (hk1 : k ≤ 9223372036854775807) :
    Calls Tryd.prog 11 #[.slice (some ⟨b, off, none⟩) L.length cap, .int .i64 k] w fun e w' => e = .returned (.string (txt (cTxt k L.reverse))) ∧ Below w.heap.size w w' := by
  have HL := Lib.hid hL
  have HO := Lib.hid hok
  have HLEN := Lib.hid hlen
  clear hL hok hlen
  generalize hn : L.length = n at hm ⊢
  have HN := Lib.hid hn
  clear hn
  have body : ∀ w0, Below w.heap.size w w0 → Hid (∀ wr : World, ∀ k' x, L[k']? = some x → Below w.heap.size w wr → wr.cell? ⟨b, off + k' * 2, none⟩ = some (.string x.1) ∧ wr.cell? ⟨b, off + k' * 2 + 1, none⟩ = some (.int .i64 x.2)) := fun w0 _ => Lib.hid fun wr k' x hx hb => ⟨(hb.cell (p := ⟨b, off + k' * 2, none⟩) hbl).trans (HL.out k' x hx).1, (hb.cell (p := ⟨b, off + k' * 2 + 1, none⟩) hbl).trans (HL.out k' x hx).2⟩
  have HB := body w (Below.refl _ _)
  clear body
  have hsz : (txt (Lib.itoa k)).size ≤ 21 := by rw [txt_size]; exact Lib.itoa_length_le k hk0 hk1
  have hdig : ∀ w, Calls Tryd.prog 20 #[.int .i64 k] w fun ev w' => ev = .returned (.string (txt (Lib.itoa k))) ∧ Below w.heap.size w w' := fun w => digits_any k.natAbs k w (Nat.le_refl _) hk0 hk1
  have HD := Lib.hid hdig
  clear hdig
  have HST : 0 ≤ k → k ≤ 999 → ({ data := #[102, 105, 108, 105, 103, 114, 101, 101, 32, 101, 114, 114, 111, 114, 32] } : ByteArray) ++ txt (Lib.itoa k) = txt (cTxt k []) := fun h1 h2 => by
    have hnum : kNum k = Lib.itoa k := if_neg (by omega)
    simp only [cTxt, kTxt]; rw [hnum, ← txt_app]; rfl
  have HSB : k < 0 ∨ 999 < k → ({ data := #[102, 105, 108, 105, 103, 114, 101, 101, 32, 101, 114, 114, 111, 114, 32, 63] } : ByteArray) = txt (cTxt k []) := fun h1 => by
    have hnum : kNum k = [63] := if_pos h1
    simp only [cTxt, kTxt]; rw [hnum]; rfl
  have HS1 := Lib.hid HST
  have HS2 := Lib.hid HSB
  clear HST HSB
  rcases (show (0 ≤ k ∧ k ≤ 999) ∨ k < 0 ∨ (0 ≤ k ∧ 999 < k) by omega) with ⟨hr1, hr2⟩ | hr | ⟨hr1, hr2⟩
  all_goals
    go_enter Tryd.func11, Tryd.ntmps11
    go_wp2_with (go_at_call 20; refine (HD.out _).mono ?_; rintro e w' ⟨rfl, hb0⟩; have HB0 := Lib.hid hb0; clear hb0)
    go_loopg [5, 6] n (fun g v i wr => ∃ k' : Nat, k' + g = n ∧ i = .int .i64 k' ∧ Hid (Below w.heap.size w wr) ∧ v = .string (txt (cTxt k (L.take k').reverse)))
    case atStart => first | exact ⟨0, by omega, rfl, HB0, congrArg Value.string (HS1.out hr1 hr2)⟩ | exact ⟨0, by omega, rfl, Lib.hid (Below.refl _ _), congrArg Value.string (HS2.out (by omega))⟩
    case round =>
      obtain ⟨k', hk, rfl, hbel, rfl⟩ := hrel
      by_cases hlt : k' < n
      · obtain ⟨x, hx⟩ : ∃ x, L[k']? = some x := ⟨_, List.getElem?_eq_getElem (by have := HN.out; omega)⟩
        have hxm : x ∈ L := List.mem_of_getElem? hx
        have hn0 := (HO.out x hxm).1
        have hn1 := (HO.out x hxm).2
        have hc0 := (HB.out wr k' x hx hbel.out).1
        have hc1 := (HB.out wr k' x hx hbel.out).2
        have hs1 : (txt (Lib.itoa x.2)).size ≤ 21 := by rw [txt_size]; exact Lib.itoa_length_le x.2 hn0 hn1
        have hs2 : (txt (cTxt k (L.take k').reverse)).size ≤ 1099511627776 := by
          rw [txt_size]
          have h1 := cTxt_len k _ (cOk_rev HO.out k')
          rw [cLen_rev] at h1
          have h2 := cLen_take L k'
          have h3 := HLEN.out
          omega
        have hs3 : x.1.size ≤ 1099511627776 := by
          have h1 := tot_take L k' x hx
          have h2 := cLen_take L (k' + 1)
          have h3 := HLEN.out
          rw [cLen_tot] at h2
          omega
        have HX := Lib.hid hx
        have HK := Lib.hid hk
        have HD2 := Lib.hid (fun w => digits_any x.2.natAbs x.2 w (Nat.le_refl _) hn0 hn1)
        clear hx hk hxm hn0 hn1
        go_wp2_with fail
        go_region_with (go_at_call 20; refine (HD2.out _).mono ?_; rintro e w' ⟨rfl, hb⟩; have hd := HB.out w' k' x HX.out (hbel.out.trans (((Below.refl _ _).drew.trans hb).mono hbel.out.size)); have hd0 := hd.1; clear hd; have HBB := Lib.hid hb; clear hb)
        all_goals
          go_wp2
          go_roundg (gk - 1)
          case measure => have := HK.out; omega
          case rel => exact ⟨k' + 1, by have := HK.out; omega, by go_num, Lib.hid (hbel.out.trans (((Below.refl _ _).drew.trans HBB.out).mono hbel.out.size)), by rw [List.take_add_one, HX.out]; simp only [Option.toList_some, List.reverse_append, List.reverse_cons, List.reverse_nil, List.nil_append, List.singleton_append, cTxt]; rw [← txt_app, ← pTxt_eq]; rfl⟩
      · have hkn : k' = n := by omega
        have hg : L.take k' = L := List.take_of_length_le (by have := HN.out; omega)
        subst hkn
        clear hk
        go_wp2
        go_ret
        exact ⟨by rw [← hg, List.take_take, Nat.min_self]; rfl, hbel.out⟩
end Go.Proofs.YthfdakglamgknaaDoor
