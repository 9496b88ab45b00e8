/- alive: the chapter's example. -/
import Derived.Test.YthfdakglamgknaaDoorFi
import Derived.Test.YthfdakglamgknaaDoorFf
namespace Go.Proofs.YthfdakglamgknaaDoor
open Go.RowKit

/-- what every law's road reads of the library: the handle of the type error, and the table of powers of ten -/
structure Lay (w : World) : Prop where
  et : w.cell? ⟨0, 0, none⟩ = some (.iface 74 (.agg #[.pointer (some ⟨4, 27, none⟩)]))
  tab : Tab w
theorem Lay.later {w w' : World} (h : Lay w) (hb : Below w.heap.size w w') : Lay w' := ⟨(hb.cell (p := ⟨0, 0, none⟩) (lt_cell h.et)).trans h.et, h.tab.later hb⟩

theorem alive_text : txt (pTxt ⟨#[108, 105, 110, 101]⟩ 3 ++ kTxt 6) = ⟨#[108, 105, 110, 101, 32, 51, 58, 32, 102, 105, 108, 105, 103, 114, 101, 101, 32, 101, 114, 114, 111, 114, 32, 54]⟩ := by
  have h1 : Lib.itoa 3 = [51] := by rw [itoa_pos1 3 (by omega) (by omega)]; rfl
  have h2 : Lib.itoa 6 = [54] := by rw [itoa_pos1 6 (by omega) (by omega)]; rfl
  have h3 : kNum 6 = [54] := by unfold kNum; rw [if_neg (by omega), h2]
  unfold pTxt kTxt
  rw [h1, h3]
  rfl

theorem Chain.setOther {w : World} {t : Value} {a : Addr} {u : Value} : ∀ {l : List (ByteArray × Int)} {v : Value}, Chain w t l v → (∀ c T, w.heap[a.block]? = some (.cells c T (0, 0)) → T ≠ 37) → Chain (w.setCell a u) t l v
  | [], _, h, _ => h
  | (_, _) :: _, _, ⟨b, x, h1, h2, h3⟩, hn => ⟨b, x, h1, by
      rw [Below.heap_setCell _ _ _ _ (fun e => hn _ _ (e ▸ h2) rfl)]; exact h2, h3.setOther hn⟩
theorem alive_error (w : World) (b : Nat) (hc : Chain w (.iface 23 (.int .i64 6)) [(⟨#[108, 105, 110, 101]⟩, 3)] (.iface 29 (.pointer (some ⟨b, 0, none⟩)))) (ht : Tab w) :
    Calls Tryd.prog 10 #[.pointer (some ⟨b, 0, none⟩)] w fun ev w' => ev = .returned (.string ⟨#[108, 105, 110, 101, 32, 51, 58, 32, 102, 105, 108, 105, 103, 114, 101, 101, 32, 101, 114, 114, 111, 114, 32, 54]⟩) ∧ Below w.heap.size w w' := by
  have h := ferror_chain 6 [(⟨#[108, 105, 110, 101]⟩, 3)] b w (by simp) hc (by intro x hx; simp at hx; subst hx; simp) (by simp only [cLen]; decide) ht
  rw [show cTxt 6 [(⟨#[108, 105, 110, 101]⟩, 3)] = pTxt ⟨#[108, 105, 110, 101]⟩ 3 ++ kTxt 6 from rfl, alive_text] at h
  exact h

set_option maxRecDepth 100000 in
set_option maxHeartbeats 4000000 in
theorem alive_any (w : World) (hl : Lay w) : Calls Tryd.prog 7 #[] w fun ev w' => ev = .returned (.bool true) ∧ Below w.heap.size w w' := by
  obtain ⟨W, hW⟩ : ∃ W, W = (w.alloc (.cells #[.string ⟨#[108, 105, 110, 101]⟩, .int .i64 3, .iface 23 (.int .i64 6)] 37)).alloc (.cells #[.pointer none] 29) := ⟨_, rfl⟩
  have hb0 : Below w.heap.size w W := by rw [hW]; exact ext_alloc (ext_alloc (Below.refl _ _) _) _
  have hs0 : W.heap.size = w.heap.size + 1 + 1 := by rw [hW]; simp
  have hcA : Chain W (.iface 23 (.int .i64 6)) [(⟨#[108, 105, 110, 101]⟩, 3)] (.iface 29 (.pointer (some ⟨w.heap.size, 0, none⟩))) := by
    rw [hW]
    exact ⟨_, _, rfl, by rw [Below.heap_alloc _ _ _ (by simp)]; exact heap_alloc_new _ _, rfl⟩
  have hf0 : W.heap[w.heap.size + 1]? = some (.cells #[.pointer none] 29 (0, 0)) := by rw [hW]; have := heap_alloc_new (w.alloc (.cells #[.string ⟨#[108, 105, 110, 101]⟩, .int .i64 3, .iface 23 (.int .i64 6)] 37)) (.cells #[.pointer none] 29); simpa using this
  have hAs := As_F ⟨w.heap.size, 0, none⟩ ⟨w.heap.size + 1, 0, none⟩ (.pointer none) W ((hl.later hb0).et) (cell_of_block hf0 rfl) (by simp [World.frozen?, hf0])
  have HAS := Lib.hid hAs
  have HS0 := Lib.hid hs0
  have HB0 := Lib.hid hb0
  have HC := Lib.hid hcA
  have HF := Lib.hid hf0
  have HL := Lib.hid hl
  have HW := Lib.hid hW
  clear hAs hs0 hb0 hcA hf0 hl hW
  go_enter Tryd.func7, Tryd.ntmps7
  go_wp2_with (go_at_call 17; refine (wrap_kind _ 3 6 _ rfl).mono ?_; rintro e w' ⟨rfl, rfl⟩)
  rw [← HW.out]
  refine HAS.out.mono ?_
  rintro e w' ⟨rfl, w1, hb1, rfl⟩
  have hbig : Below w.heap.size w (w1.setCell ⟨w.heap.size + 1, 0, none⟩ (.pointer (some ⟨w.heap.size, 0, none⟩))) := (HB0.out.trans (hb1.mono HB0.out.size)).setCell (by simp) _
  have hf1 : w1.heap[w.heap.size + 1]? = some (.cells #[.pointer none] 29 (0, 0)) := (hb1.block _ (by rw [HS0.out]; omega)).trans HF.out
  have hch : Chain (w1.setCell ⟨w.heap.size + 1, 0, none⟩ (.pointer (some ⟨w.heap.size, 0, none⟩))) (.iface 23 (.int .i64 6)) [(⟨#[108, 105, 110, 101]⟩, 3)] (.iface 29 (.pointer (some ⟨w.heap.size, 0, none⟩))) :=
    (HC.out.later hb1).setOther fun c T hT => by
      simp only [hf1] at hT; cases hT; decide
  obtain ⟨W2, hW2⟩ : ∃ W2, W2 = w1.setCell ⟨w.heap.size + 1, 0, none⟩ (.pointer (some ⟨w.heap.size, 0, none⟩)) := ⟨_, rfl⟩
  have hcell : W2.cell? ⟨w.heap.size + 1, 0, none⟩ = some (.pointer (some ⟨w.heap.size, 0, none⟩)) := by
    rw [hW2]; simp [World.cell?, World.setCell, Array.getElem?_modify, hf1]
  rw [← hW2] at hbig hch ⊢
  have hlay := HL.out.later hbig
  have herr := alive_error W2 w.heap.size hch hlay.tab
  have HERR := Lib.hid herr
  have HLAY := Lib.hid hlay
  have HCH := Lib.hid hch
  have HBIG := Lib.hid hbig
  clear herr hlay hch hbig hW2 hf1 hb1
  go_wp2_with (go_at_call 10; refine HERR.out.mono ?_; rintro e w3 ⟨rfl, hb3⟩; have HB3 := Lib.hid hb3; clear hb3)
  refine (of_kind 6 _ _ _ (HCH.out.later HB3.out) (HLAY.out.later HB3.out).et).mono ?_
  rintro e w4 ⟨rfl, hb4⟩
  have HB4 := Lib.hid hb4
  clear hb4
  go_wp2_with fail
  refine (wrap_nil _ 1 _).mono ?_
  rintro e w5 ⟨rfl, rfl⟩
  go_wp2_with fail
  refine (wrap_ok _ 1 _).mono ?_
  rintro e w6 ⟨rfl, rfl⟩
  go_wp2_with fail
  go_ret
  exact ⟨rfl, ext_trans (ext_trans HBIG.out HB3.out) HB4.out⟩
end Go.Proofs.YthfdakglamgknaaDoor
