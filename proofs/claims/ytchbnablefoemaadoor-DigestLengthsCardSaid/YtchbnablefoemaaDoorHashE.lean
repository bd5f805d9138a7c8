/- digest: the example awake; the law DigestNobody. -/
import Derived.Test.YtchbnablefoemaaDoorHashD
import Derived.Lib.SlBytesConst
namespace Go.Proofs.YtchbnablefoemaaDoor
open Go.RowKit
set_option linter.unusedVariables false

theorem abc_rbb {w : World} {s : Nat} {f1 f2 : Nat × Nat} (h1 : w.heap[s]? = some (.cells #[.int .u8 97] 5 f1)) (h2 : w.heap[s + 1]? = some (.cells #[.int .u8 98, .int .u8 99] 5 f2))
    (h3 : BK w (s + 2) 22 [.slice (some ⟨s, 0, none⟩) 1 1, .slice (some ⟨s + 1, 0, none⟩) 2 2]) : RBB w (some ⟨s + 2, 0, none⟩) abc := by
  intro i hi
  have hi2 : i < 2 := hi
  match i, hi2 with
  | 0, _ =>
    refine ⟨s + 2, 0, some ⟨s, 0, none⟩, 1, rfl, h3.cell rfl, ?_, Nat.le_refl _⟩
    intro j hj
    obtain rfl : j = 0 := by simpa [abc] using hj
    exact ⟨s, 0, rfl, cell_heap h1 rfl⟩
  | 1, _ =>
    refine ⟨s + 2, 0, some ⟨s + 1, 0, none⟩, 2, rfl, h3.cell rfl, ?_, Nat.le_refl _⟩
    intro j hj
    have hj2 : j < 2 := by simpa [abc] using hj
    match j, hj2 with
    | 0, _ => exact ⟨s + 1, 0, rfl, cell_heap h2 rfl⟩
    | 1, _ => exact ⟨s + 1, 0, rfl, cell_heap h2 rfl⟩

set_option maxRecDepth 8000 in
set_option maxHeartbeats 1000000 in
theorem awake_calls (w : World) (hT : Tabs w) :
    Calls Tryd.prog 9 #[] w fun e w' => e = .returned (.bool true) ∧ Below w.heap.size w w' := by
  have HT := Lib.hid hT
  clear hT
  have kc := fun (C : Array Value) (n c : Nat) => Lib.run_convert_bytes_const (P := Tryd.prog) w 22 5 C n c Tryd.underlying22 Tryd.underlying5
  have kd := fun (C : Array Value) (n c : Nat) => Lib.run_convert_bytes_const (P := Tryd.prog) (w.alloc (.cells #[.int .u8 97] 5 (1, 2))) 22 5 C n c Tryd.underlying22 Tryd.underlying5
  simp at kd
  go_enter Tryd.func9, Tryd.ntmps9
  go_wp2_with fail
  obtain ⟨w3, hw3⟩ : ∃ w3, ((w.alloc (.cells #[.int .u8 97] 5 (1, 2))).alloc (.cells #[.int .u8 98, .int .u8 99] 5 (2, 3))).alloc (.cells #[.slice (some ⟨w.heap.size, 0, none⟩) 1 1, .slice (some ⟨w.heap.size + 1, 0, none⟩) 2 2] 22) = w3 := ⟨_, rfl⟩
  rw [hw3]
  have hb3 : Below w.heap.size w w3 := by rw [← hw3]; exact ((ext_alloc w _).alloc (by simp) _).alloc (by simp <;> omega) _
  have h1 : w3.heap[w.heap.size]? = some (.cells #[.int .u8 97] 5 (1, 2)) := by rw [← hw3]; exact heap_old (heap_old (heap_new w _ rfl))
  have h2 : w3.heap[w.heap.size + 1]? = some (.cells #[.int .u8 98, .int .u8 99] 5 (2, 3)) := by rw [← hw3]; exact heap_old (heap_new (w.alloc _) _ (by simp))
  have h3 : BK w3 (w.heap.size + 2) 22 [.slice (some ⟨w.heap.size, 0, none⟩) 1 1, .slice (some ⟨w.heap.size + 1, 0, none⟩) 2 2] := by rw [← hw3]; exact heap_new ((w.alloc _).alloc _) _ (by simp)
  have HR := Lib.hid (abc_rbb h1 h2 h3)
  have HB3 := Lib.hid hb3
  clear hw3 hb3 h1 h2 h3 kc kd
  refine (of_calls (some ⟨w.heap.size + 2, 0, none⟩) 2 abc w3 (HT.out.ext HB3.out) HR.out (by decide) (by decide)).mono ?_
  rintro e w4 ⟨rfl, hb4⟩
  have HB4 := Lib.hid (ext_trans HB3.out hb4)
  have ha := abc_sum
  have hl := sumL_length (catTo abc abc.length)
  generalize sumL (catTo abc abc.length) = O at *
  have HIN := Lib.hid (info32 O hl)
  have HONE : Hid ((O.map vb).toArray.all (·.oneCell') = true) := Lib.hid (by simp [vb, Value.oneCell'])
  have HZS : Hid ((List.replicate 32 (Value.int .u8 0)).toArray.size = (O.map vb).toArray.size) := Lib.hid (by simp [hl])
  have HA := Lib.hid ha
  have HL := Lib.hid hl
  clear ha hl hb4
  go_wp2_with (refine wpList_store_bk rfl 33 _ _ rfl w4.heap.size (O.map vb) rfl rfl 33 (List.replicate 32 (Value.int .u8 0)).toArray (heap_new w4 _ rfl) HIN.out HZS.out HONE.out ?_)
  intro w5 hk5 hg5 _
  have hs4 := HB4.out.size
  have hb5 := below_grown (HB4.out.alloc hs4 _) hg5 (by simp; omega) hs4
  have HB5 := Lib.hid hb5
  have c0 := hk5.cell (gb_get O 0 (by rw [HL.out]; decide))
  have c1 := hk5.cell (gb_get O 1 (by rw [HL.out]; decide))
  have c31 := hk5.cell (gb_get O 31 (by rw [HL.out]; decide))
  rw [HA.out.1] at c0
  rw [HA.out.2.1] at c1
  rw [HA.out.2.2] at c31
  clear hk5 hg5 hb5
  go_wp2
  go_ret
  exact ⟨rfl, HB5.out⟩
end Go.Proofs.YtchbnablefoemaaDoor
