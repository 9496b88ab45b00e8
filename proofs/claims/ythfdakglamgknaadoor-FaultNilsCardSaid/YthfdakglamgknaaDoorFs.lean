/- fault.each and fault.Place over a chain; fault.Trail of nil. -/
import Derived.Test.YthfdakglamgknaaDoorFi
namespace Go.Proofs.YthfdakglamgknaaDoor
open Go.RowKit

def placeOf (s : ByteArray) : List (ByteArray × Int) → Option Int
  | [] => none
  | (t, n) :: r => if t.toList == s.toList then some n else placeOf s r

theorem below_drewN (w : World) (n : Nat) : Below w.heap.size w (w.drewN n) := ⟨rfl, rfl, rfl, Nat.le_refl _, fun _ _ => rfl⟩

def Hit (w : World) (d : Nat) (n : Int) (w' : World) : Prop := ∃ w1, Below w.heap.size w w1 ∧ w1.setCell ⟨d, 0, none⟩ (.int .i64 n) = w'

set_option maxRecDepth 100000 in
set_option maxHeartbeats 1000000 in
theorem place1_hit (b c d : Nat) (s t : ByteArray) (n old : Int) (w : World) (h0 : w.cell? ⟨b, 0, none⟩ = some (.string t)) (h1 : w.cell? ⟨b, 1, none⟩ = some (.int .i64 n)) (hc : w.cell? ⟨c, 0, none⟩ = some (.string s)) (hd : w.cell? ⟨d, 0, none⟩ = some (.int .i64 old)) (hf : w.frozen? ⟨d, 0, none⟩ = false) (he : (t.toList == s.toList) = true) :
    Calls Tryd.prog 31 #[.pointer (some ⟨b, 0, none⟩), .pointer (some ⟨c, 0, none⟩), .pointer (some ⟨d, 0, none⟩)] w fun e w' => e = .returned (.bool false) ∧ Hit w d n w' := by
  go_enter Tryd.func31, Tryd.ntmps31
  go_wp2
  go_quiet (fail)
  go_wp2
  go_ret
  exact ⟨rfl, _, below_drewN w nq, rfl⟩
set_option maxRecDepth 100000 in
set_option maxHeartbeats 1000000 in
theorem place1_miss (b c d : Nat) (s t : ByteArray) (w : World) (h0 : w.cell? ⟨b, 0, none⟩ = some (.string t)) (hc : w.cell? ⟨c, 0, none⟩ = some (.string s)) (he : (t.toList == s.toList) = false) :
    Calls Tryd.prog 31 #[.pointer (some ⟨b, 0, none⟩), .pointer (some ⟨c, 0, none⟩), .pointer (some ⟨d, 0, none⟩)] w fun e w' => e = .returned (.bool true) ∧ Below w.heap.size w w' := by
  go_enter Tryd.func31, Tryd.ntmps31
  go_wp2
  go_quiet (fail)
  go_wp2
  go_ret
  exact ⟨rfl, below_drewN w nq⟩

/-- what each leaves at the place's variable -/
def Left (w : World) (d : Nat) (o : Option Int) (w' : World) : Prop := match o with
  | some n => Hit w d n w'
  | none => Below w.heap.size w w'

set_option maxRecDepth 100000 in
set_option maxHeartbeats 4000000 in
theorem each_place (T : Value) (hT : Last T) (l : List (ByteArray × Int)) (v : Value) (c d : Nat) (s : ByteArray) (old : Int) (w : World) (hch : Chain w T l v) (hc : w.cell? ⟨c, 0, none⟩ = some (.string s)) (hd : w.cell? ⟨d, 0, none⟩ = some (.int .i64 old)) (hf : w.frozen? ⟨d, 0, none⟩ = false) :
    Calls Tryd.prog 29 #[v, .func (.func 31) #[] #[.pointer (some ⟨c, 0, none⟩), .pointer (some ⟨d, 0, none⟩)]] w fun e w' => e = .returned (.tuple #[]) ∧ Left w d (placeOf s l) w' := by
  have a1 := as_FF; have a2 := as_FK; have a3 := as_FS
  have HC := Lib.hid hch
  have HT := Lib.hid hT
  have hcl := lt_cell hc
  have hdl := lt_cell hd
  have HCC := Lib.hid hc; have HDD := Lib.hid hd; have HFF := Lib.hid hf
  clear hch hT hc hd hf
  go_enter Tryd.func29, Tryd.ntmps29
  go_wp2
  go_loopg [0] l.length (fun g p wr => Hid (Below w.heap.size w wr) ∧ ∃ r, Hid (r.length = g) ∧ Hid (Chain wr T r p) ∧ Hid (placeOf s r = placeOf s l))
  case atStart => exact ⟨Lib.hid (Below.refl _ _), l, rfl, HC, rfl⟩
  case round =>
    obtain ⟨hb, r, hr, hc, hp⟩ := hrel
    cases r with
    | nil =>
      have hv : u0 = T := hc.out
      have hpl : placeOf s l = none := hp.out.symm
      have HP := Lib.hid hpl
      clear hpl hp
      subst hv
      cases HT.out with
      | kind k =>
        go_wp2
        first | go_end0 | refine bodyPost_ret (results_none rfl _ _ _) rfl ?_
        exact ⟨rfl, by rw [HP.out]; exact hb.out⟩
      | str k =>
        go_wp2
        first | go_end0 | refine bodyPost_ret (results_none rfl _ _ _) rfl ?_
        exact ⟨rfl, by rw [HP.out]; exact hb.out⟩
    | cons x r =>
      obtain ⟨t, n⟩ := x
      obtain ⟨b, u, rfl, hbl, hc2⟩ := hc.out
      have h0 := cell_of_block (i := 0) hbl rfl
      have h1 := cell_of_block (i := 1) hbl rfl
      have h2 := cell_of_block (i := 2) hbl rfl
      have k1 := (hb.out.cell (p := ⟨c, 0, none⟩) hcl).trans HCC.out
      have k2 := (hb.out.cell (p := ⟨d, 0, none⟩) hdl).trans HDD.out
      have k3 := (hb.out.frozen (p := ⟨d, 0, none⟩) hdl).trans HFF.out
      obtain ⟨T', y, rfl⟩ := hc2.head HT.out
      have HC2 := Lib.hid hc2
      clear hc2
      by_cases he : (t.toList == s.toList) = true
      · have hpl : placeOf s l = some n := by rw [← hp.out]; simp only [placeOf]; rw [if_pos he]
        have HP := Lib.hid hpl
        have HX := Lib.hid (place1_hit b c d s t n old wr h0 h1 k1 k2 k3 he)
        clear hpl hp h0 h1 h2 k1 k2 k3 hbl he
        go_wp2_with (go_at_call 31; refine HX.out.mono ?_; rintro e w' ⟨rfl, hh⟩)
        first | go_end0 | refine bodyPost_ret (results_none rfl _ _ _) rfl ?_
        exact ⟨rfl, by rw [HP.out]; obtain ⟨w1, hw1, rfl⟩ := hh; exact ⟨w1, ext_trans hb.out hw1, rfl⟩⟩
      · have he' : (t.toList == s.toList) = false := by simpa using he
        have hpl : placeOf s r = placeOf s l := by rw [← hp.out]; simp only [placeOf]; rw [if_neg he]
        have HP := Lib.hid hpl
        have HX := Lib.hid (place1_miss b c d s t wr h0 k1 he')
        have HH2 := Lib.hid h2
        have hlt := lt_block hbl
        clear hpl hp h0 h1 h2 k1 k2 k3 hbl he he'
        go_wp2_with (go_at_call 31; refine HX.out.mono ?_; rintro e w' ⟨rfl, hh⟩; have hq := (hh.cell (p := ⟨b, 2, none⟩) hlt).trans HH2.out; have HHH := Lib.hid hh; clear hh)
        go_roundg r.length
        case measure => have := hr.out; simp at this; omega
        case rel => exact ⟨Lib.hid (ext_trans hb.out HHH.out), r, rfl, Lib.hid (HC2.out.later HHH.out), HP⟩
end Go.Proofs.YthfdakglamgknaaDoor
