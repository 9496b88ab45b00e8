/- fault.Place; fault.Trail of nil. -/
import Derived.Test.YthfdakglamgknaaDoorFs
namespace Go.Proofs.YthfdakglamgknaaDoor
open Go.RowKit

theorem mkFunc (fn : Fn) (first cap : Array Value) (w : World) : (Instr.makeFunc fn first cap).run Tryd.prog w = .ok (.func fn first cap) w := rfl

set_option maxRecDepth 100000 in
set_option maxHeartbeats 1000000 in
theorem each_nil (f : Value) (w : World) : Calls Tryd.prog 29 #[.nilIface, f] w fun e w' => e = .returned (.tuple #[]) ∧ w = w' := by
  go_enter Tryd.func29, Tryd.ntmps29
  go_wp2
  refine wp_loop_rounds 1 ?_
  rw [rounds_succ]
  go_wp2
  first | go_end0 | refine bodyPost_ret (results_none rfl _ _ _) rfl ?_
  exact ⟨rfl, rfl⟩

set_option maxRecDepth 100000 in
set_option maxHeartbeats 1000000 in
theorem place_nil (s : ByteArray) (w : World) : Calls Tryd.prog 19 #[.nilIface, .string s] w fun e w' => e = .returned (.int .i64 (-1)) ∧ Below w.heap.size w w' := by
  have m := mkFunc
  go_enter Tryd.func19, Tryd.ntmps19
  go_wp2_with (go_at_call 29; refine (each_nil _ _).mono ?_; rintro e w' ⟨rfl, rfl⟩)
  go_ret
  exact ⟨rfl, ext_alloc (ext_alloc (Below.refl _ _) _) _⟩

set_option maxRecDepth 100000 in
set_option maxHeartbeats 1000000 in
theorem place_any (T : Value) (hT : Last T) (l : List (ByteArray × Int)) (v : Value) (s : ByteArray) (w : World) (hch : Chain w T l v) :
    Calls Tryd.prog 19 #[v, .string s] w fun e w' => e = .returned (.int .i64 ((placeOf s l).getD (-1))) ∧ Below w.heap.size w w' := by
  obtain ⟨W, hW⟩ : ∃ W, W = (w.alloc (.cells #[.string s] 9)).alloc (.cells #[.int .i64 (-1)] 3) := ⟨_, rfl⟩
  have hbW : Below w.heap.size w W := by rw [hW]; exact ext_alloc (ext_alloc (Below.refl _ _) _) _
  have hsz : W.heap.size = w.heap.size + 1 + 1 := by rw [hW]; simp
  have hE := each_place T hT l v w.heap.size (w.heap.size + 1) s (-1) W (hch.later hbW) (by rw [hW, World.cell?_alloc_lt _ _ _ (by simp)]; simp) (by rw [hW]; simp) (by rw [hW]; simp)
  have hblk : W.heap[w.heap.size + 1]? = some (.cells #[.int .i64 (-1)] 3 (0, 0)) := by
    rw [hW]; have := heap_alloc_new (w.alloc (.cells #[.string s] 9)) (.cells #[.int .i64 (-1)] 3); simpa using this
  -- what each leaves: the variable's cell, and nothing old turned
  have fin : ∀ w', Left W (w.heap.size + 1) (placeOf s l) w' → Below w.heap.size w w' ∧ w'.cell? ⟨w.heap.size + 1, 0, none⟩ = some (.int .i64 ((placeOf s l).getD (-1))) := by
    intro w' h
    cases hp : placeOf s l with
    | none =>
      rw [hp] at h
      have hb : Below W.heap.size W w' := h
      exact ⟨ext_trans hbW hb, cell_of_block ((hb.block _ (by omega)).trans hblk) rfl⟩
    | some n =>
      rw [hp] at h
      obtain ⟨w1, hb, rfl⟩ : Hit W (w.heap.size + 1) n w' := h
      refine ⟨(ext_trans hbW hb).setCell (by simp) _, ?_⟩
      have hk := (hb.block _ (by omega : w.heap.size + 1 < W.heap.size)).trans hblk
      simp [World.cell?, World.setCell, Array.getElem?_modify, hk]
  have HE := Lib.hid hE
  have HF := Lib.hid fin
  have HW := Lib.hid hW
  obtain ⟨Tv, y, rfl⟩ := hch.head hT
  generalize hq : (placeOf s l).getD (-1) = q at HF ⊢
  have m := mkFunc
  clear hbW hsz hE hblk fin hch hq
  go_enter Tryd.func19, Tryd.ntmps19
  go_wp2_with fail
  rw [← HW.out]
  refine HE.out.mono ?_
  rintro e w' ⟨rfl, hl⟩
  obtain ⟨hb, hc⟩ := HF.out w' hl
  clear hl
  go_wp2
  go_ret
  exact ⟨rfl, hb⟩

set_option maxRecDepth 100000 in
set_option maxHeartbeats 1000000 in
theorem trail_nil (w : World) : Calls Tryd.prog 18 #[.nilIface] w fun e w' => e = .returned (.slice none 0 0) ∧ Below w.heap.size w w' := by
  have m := mkFunc
  go_enter Tryd.func18, Tryd.ntmps18
  go_wp2_with (go_at_call 29; refine (each_nil _ _).mono ?_; rintro e w' ⟨rfl, rfl⟩)
  exact bodyPost_ret (v := .slice none 0 0) (by simp [results, Tryd.results18, go_sem]) rfl ⟨rfl, ext_alloc (Below.refl _ _) _⟩
end Go.Proofs.YthfdakglamgknaaDoor
