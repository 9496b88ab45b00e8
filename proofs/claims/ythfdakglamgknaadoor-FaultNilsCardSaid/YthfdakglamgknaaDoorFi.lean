/- (*Fault).Error over a chain. -/
import Derived.Test.YthfdakglamgknaaDoorFh
import Derived.Test.YthfdakglamgknaaDoorFd
import Derived.Test.YthfdakglamgknaaDoorShelf
import Derived.Lib.AppendIntMem
import Derived.Deep.RegionHeld3
namespace Go.Proofs.YthfdakglamgknaaDoor
open Go.RowKit

/-- the library's table that strconv.Itoa reads -/
def Tab (w : World) : Prop := Lib.TabIs Tryd.prog w "internal/strconv.uint64pow10" .u64 Lib.pow10Tab
theorem Tab.later {w w' : World} (h : Tab w) (hb : Below w.heap.size w w') : Tab w' := Lib.tabBelow_of_tabIs h w' hb
theorem Tab.drew {w : World} (h : Tab w) : Tab w.drew := h.later (Below.refl _ _).drew
theorem itoa_any (n : Int) (h0 : -9223372036854775808 ≤ n) (h1 : n ≤ 9223372036854775807) (w : World) (ht : Tab w) :
    Calls Tryd.prog 25 #[.int .i64 n] w fun e w' => e = .returned (.string (txt (Lib.itoa n))) ∧ Below w.heap.size w w' :=
  (Tryd.strconv_Itoa n h0 h1 w ht).mono fun _ _ ⟨h2, _, _, h3⟩ => ⟨h2, h3 ▸ Lib.below_grow _ _ (Nat.le_refl _) _ _⟩

/-- a place's text: 'where at: ' -/
def pTxt (s : ByteArray) (n : Int) : List UInt8 := s.data.toList ++ [32] ++ Lib.itoa n ++ [58, 32]
theorem pTxt_len (s : ByteArray) (n : Int) (h0 : -9223372036854775808 ≤ n) (h1 : n ≤ 9223372036854775807) : (pTxt s n).length ≤ s.size + 24 := by
  have h2 := Lib.itoa_length_le n h0 h1
  have h3 : (pTxt s n).length = s.size + 1 + (Lib.itoa n).length + 2 := by simp only [pTxt, List.length_append, List.length_cons, List.length_nil]; rfl
  omega
theorem txt_data (s : ByteArray) : txt s.data.toList = s := by simp [txt]
theorem pTxt_eq (s : ByteArray) (n : Int) : s ++ txt [32] ++ txt (Lib.itoa n) ++ txt [58, 32] = txt (pTxt s n) := by
  unfold pTxt; rw [← txt_app, ← txt_app, ← txt_app, txt_data]

set_option maxRecDepth 100000 in
set_option maxHeartbeats 4000000 in
theorem ferror_nil (w : World) : Calls Tryd.prog 10 #[.pointer none] w fun ev w' => ev = .returned (.string (txt [])) ∧ w = w' := by
  go_enter Tryd.func10, Tryd.ntmps10
  go_wp2_with fail
  go_ret
  exact ⟨rfl, rfl⟩

set_option maxRecDepth 100000 in
set_option maxHeartbeats 4000000 in
theorem ferror_bare (b : Nat) (s : ByteArray) (n : Int) (w : World) (hb0 : w.heap[b]? = some (.cells #[.string s, .int .i64 n, .nilIface] 37 (0, 0))) (hs : s.size ≤ 1099511627776) (h0 : -9223372036854775808 ≤ n) (h1 : n ≤ 9223372036854775807) (ht : Tab w) :
    Calls Tryd.prog 10 #[.pointer (some ⟨b, 0, none⟩)] w fun ev w' => ev = .returned (.string (txt (pTxt s n))) ∧ Below w.heap.size w w' := by
  have hc0 : w.cell? ⟨b, 0, none⟩ = some (.string s) := cell_of_block hb0 rfl
  have hc1 : w.cell? ⟨b, 1, none⟩ = some (.int .i64 n) := cell_of_block hb0 rfl
  have hc2 : w.cell? ⟨b, 2, none⟩ = some (.nilIface) := cell_of_block hb0 rfl
  have hlt := lt_block hb0
  have hq : (txt (Lib.itoa n)).size ≤ 21 := by rw [txt_size]; exact Lib.itoa_length_le n h0 h1
  have HT := Lib.hid ht
  clear ht hb0
  go_enter Tryd.func10, Tryd.ntmps10
  go_wp2_with fail
  go_region_with (go_at_call 25; refine (itoa_any n h0 h1 _ ?_).mono ?_; exact HT.out.drew; rintro e w' ⟨rfl, hb⟩; have hd0 := (hb.cell (p := ⟨b, 0, none⟩) hlt).trans hc0; have hd2 := (hb.cell (p := ⟨b, 2, none⟩) hlt).trans hc2)
  all_goals go_wp2_with fail
  all_goals go_ret
  all_goals exact ⟨by rw [← pTxt_eq]; rfl, (Below.refl _ _).drew.trans hb⟩
set_option maxRecDepth 100000 in
set_option maxHeartbeats 4000000 in
theorem ferror_kind (b : Nat) (s : ByteArray) (n : Int) (w : World) (k : Int) (hb0 : w.heap[b]? = some (.cells #[.string s, .int .i64 n, .iface 23 (.int .i64 k)] 37 (0, 0))) (hs : s.size ≤ 1099511627776) (h0 : -9223372036854775808 ≤ n) (h1 : n ≤ 9223372036854775807) (ht : Tab w) :
    Calls Tryd.prog 10 #[.pointer (some ⟨b, 0, none⟩)] w fun ev w' => ev = .returned (.string (txt (pTxt s n ++ kTxt k))) ∧ Below w.heap.size w w' := by
  have hc0 : w.cell? ⟨b, 0, none⟩ = some (.string s) := cell_of_block hb0 rfl
  have hc1 : w.cell? ⟨b, 1, none⟩ = some (.int .i64 n) := cell_of_block hb0 rfl
  have hc2 : w.cell? ⟨b, 2, none⟩ = some (.iface 23 (.int .i64 k)) := cell_of_block hb0 rfl
  have hlt := lt_block hb0
  have hq : (txt (Lib.itoa n)).size ≤ 21 := by rw [txt_size]; exact Lib.itoa_length_le n h0 h1
  have HT := Lib.hid ht
  have a1 := as_KK
  have hk : (txt (kTxt k)).size ≤ 40 := by rw [txt_size]; have := kNum_len k; simp only [kTxt, List.length_append, List.length_cons, List.length_nil]; omega
  clear ht hb0
  go_enter Tryd.func10, Tryd.ntmps10
  go_wp2_with fail
  go_region_with (go_at_call 25; refine (itoa_any n h0 h1 _ ?_).mono ?_; exact HT.out.drew; rintro e w' ⟨rfl, hb⟩; have hd0 := (hb.cell (p := ⟨b, 0, none⟩) hlt).trans hc0; have hd2 := (hb.cell (p := ⟨b, 2, none⟩) hlt).trans hc2)
  all_goals go_wp2_with (go_at_call 26; refine (kerror_any k _).mono ?_; rintro e w2 ⟨rfl, hb2⟩)
  all_goals go_ret
  all_goals exact ⟨by rw [← txt_app, ← pTxt_eq]; rfl, ((Below.refl _ _).drew.trans hb).trans (hb2.mono hb.size)⟩
set_option maxRecDepth 100000 in
set_option maxHeartbeats 4000000 in
theorem ferror_fault (b : Nat) (s : ByteArray) (n : Int) (w : World) (c : Nat) (T : List UInt8) (hT : T.length ≤ 1099511627776) (ih : ∀ w2, Below w.heap.size w w2 → Calls Tryd.prog 10 #[.pointer (some ⟨c, 0, none⟩)] w2 fun ev w' => ev = .returned (.string (txt T)) ∧ Below w2.heap.size w2 w') (hb0 : w.heap[b]? = some (.cells #[.string s, .int .i64 n, .iface 29 (.pointer (some ⟨c, 0, none⟩))] 37 (0, 0))) (hs : s.size ≤ 1099511627776) (h0 : -9223372036854775808 ≤ n) (h1 : n ≤ 9223372036854775807) (ht : Tab w) :
    Calls Tryd.prog 10 #[.pointer (some ⟨b, 0, none⟩)] w fun ev w' => ev = .returned (.string (txt (pTxt s n ++ T))) ∧ Below w.heap.size w w' := by
  have hc0 : w.cell? ⟨b, 0, none⟩ = some (.string s) := cell_of_block hb0 rfl
  have hc1 : w.cell? ⟨b, 1, none⟩ = some (.int .i64 n) := cell_of_block hb0 rfl
  have hc2 : w.cell? ⟨b, 2, none⟩ = some (.iface 29 (.pointer (some ⟨c, 0, none⟩))) := cell_of_block hb0 rfl
  have hlt := lt_block hb0
  have hq : (txt (Lib.itoa n)).size ≤ 21 := by rw [txt_size]; exact Lib.itoa_length_le n h0 h1
  have HT := Lib.hid ht
  have a1 := as_KF
  have a2 := as_FF
  have hk : (txt T).size ≤ 1099511627776 := by rw [txt_size]; exact hT
  have IH := Lib.hid ih
  clear ih hT
  clear ht hb0
  go_enter Tryd.func10, Tryd.ntmps10
  go_wp2_with fail
  go_region_with (go_at_call 25; refine (itoa_any n h0 h1 _ ?_).mono ?_; exact HT.out.drew; rintro e w' ⟨rfl, hb⟩; have hd0 := (hb.cell (p := ⟨b, 0, none⟩) hlt).trans hc0; have hd2 := (hb.cell (p := ⟨b, 2, none⟩) hlt).trans hc2)
  all_goals go_wp2_with (go_at_call 10; refine (IH.out _ ?_).mono ?_; exact (Below.refl _ _).drew.trans hb; rintro e w2 ⟨rfl, hb2⟩)
  all_goals go_ret
  all_goals exact ⟨by rw [← txt_app, ← pTxt_eq]; rfl, ((Below.refl _ _).drew.trans hb).trans (hb2.mono hb.size)⟩

/-- the text of a chain -/
def cTxt (k : Int) : List (ByteArray × Int) → List UInt8
  | [] => kTxt k
  | (s, n) :: r => pTxt s n ++ cTxt k r
def cLen : List (ByteArray × Int) → Nat
  | [] => 0
  | (s, _) :: r => s.size + 24 + cLen r
def cOk (l : List (ByteArray × Int)) : Prop := ∀ x ∈ l, -9223372036854775808 ≤ x.2 ∧ x.2 ≤ 9223372036854775807
theorem cTxt_len (k : Int) : ∀ (l : List (ByteArray × Int)), cOk l → (cTxt k l).length ≤ cLen l + 40
  | [], _ => by have := kNum_len k; simp only [cTxt, cLen, kTxt, List.length_append, List.length_cons, List.length_nil]; omega
  | (s, n) :: r, h => by
    have h1 := cTxt_len k r (fun x hx => h x (List.mem_cons_of_mem _ hx))
    have h2 := pTxt_len s n (h _ (List.mem_cons_self ..)).1 (h _ (List.mem_cons_self ..)).2
    simp only [cTxt, cLen, List.length_append]; omega
theorem ferror_chain (k : Int) : ∀ (l : List (ByteArray × Int)) (b : Nat) (w : World), l ≠ [] → Chain w (.iface 23 (.int .i64 k)) l (.iface 29 (.pointer (some ⟨b, 0, none⟩))) → cOk l → cLen l ≤ 1099511627000 → Tab w →
    Calls Tryd.prog 10 #[.pointer (some ⟨b, 0, none⟩)] w fun ev w' => ev = .returned (.string (txt (cTxt k l))) ∧ Below w.heap.size w w'
  | [], _, _, h, _, _, _, _ => absurd rfl h
  | (s, n) :: r, b, w, _, hc, hok, hl, ht => by
    obtain ⟨b', u, hv, hb, hc⟩ := hc
    obtain rfl : b = b' := by simpa using hv
    have hn := hok (s, n) (List.mem_cons_self ..)
    have hok' : cOk r := fun x hx => hok x (List.mem_cons_of_mem _ hx)
    simp only [cLen] at hl
    cases r with
    | nil =>
      obtain rfl := hc
      exact ferror_kind b s n w k hb (by omega) hn.1 hn.2 ht
    | cons x r =>
      obtain ⟨c, u2, rfl, hb2, hc2⟩ := hc
      have hch : Chain w (.iface 23 (.int .i64 k)) (x :: r) (.iface 29 (.pointer (some ⟨c, 0, none⟩))) := ⟨c, u2, rfl, hb2, hc2⟩
      have hlen := cTxt_len k (x :: r) hok'
      exact ferror_fault b s n w c (cTxt k (x :: r)) (by omega) (fun w2 hw => ferror_chain k (x :: r) c w2 (by simp) (hch.later hw) hok' (by omega) (ht.later hw)) hb (by omega) hn.1 hn.2 ht
end Go.Proofs.YthfdakglamgknaaDoor
