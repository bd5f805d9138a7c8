/- rabin: fill, New, Poly, Print: the walks. -/
import Derived.Test.YtmohjgcnhibkoaaRabD
namespace Go.Proofs.Ytmohjgcnhibkoaa
open Go.RowKit
set_option linter.unusedVariables false

/-- Both tables as they are once made. -/
def fullU (p : Nat) : List Nat := tabTo (upN p) 256
def fullO (p : Nat) : List Nat := tabTo (outN p) 256
theorem zs_length : zs.length = 256 := List.length_replicate
theorem grown_cell {w w' : World} {g : Nat} (h : w.grownBy w' (some g)) {b o : Nat} {v : Value} (hc : w.cell? ⟨b, o, none⟩ = some v) (hne : b ≠ g) : w'.cell? ⟨b, o, none⟩ = some v :=
  (World.cell?_of_block (a := ⟨b, o, none⟩) (h.block b (World.block_lt_of_cell? w _ hc) (fun e => hne (Option.some.inj e)))).trans hc

set_option maxRecDepth 100000 in
set_option maxHeartbeats 1600000 in
theorem slow_calls (g pl p : Nat) (hp : bl p = 32) (w : World) (hK : BK w g 58 (tcs 0 0 zs zs p)) (hpl : w.cell? ⟨pl, 0, none⟩ = some (.pointer (some ⟨g, 0, none⟩))) (hne : pl ≠ g) :
    Calls Try.prog 48 #[.pointer (some ⟨g, 0, none⟩), .func (.func 45) #[] #[.pointer (some ⟨pl, 0, none⟩)]] w fun e w' => e = .returned (.tuple #[]) ∧
      BK w' g 58 (tcs 1 0 (fullU p) (fullO p) p) ∧ w.grownBy w' (some g) := by
  have hK1 := hK.set 1 (.int .i32 1)
  rw [tcs_set1] at hK1
  have hG1 := grown_setCell w g 1 (.int .i32 1)
  have h1 := hK.cell (tcs_1 (d := 0) (st := 0) (up := zs) (out := zs) (p := p))
  have f1 := hK.frozen 1
  have hp1 := grown_cell hG1 hpl hne
  have hl := run_call_load (P := Try.prog) Try.func49 (by kernel_rfl) (by kernel_rfl) (by kernel_rfl) .u32 (by kernel_rfl) (w := w.setCell ⟨g, 1, none⟩ (.int .i32 1)) (a := ⟨g, 0, none⟩) (x := 0) (hK1.cell tcs_0)
  have HK1 := Lib.hid hK1
  have HP1 := Lib.hid hp1
  have HP := Lib.hid hp
  have HNE := Lib.hid hne
  have HG1 := Lib.hid hG1
  have hnot : ∀ (x : Bool) (w : World), (Op.unary .not (.bool x)).run Try.prog w = .ok (.bool (!x)) w := fun _ _ => rfl
  clear hK hK1 hp1 hp hpl hne hG1
  go_enter_defers Try.func48, Try.ntmps48
  go_wp2_with (first
    | (go_at_call 50; refine (lock_free ⟨g, 1, none⟩ _ h1 f1).mono ?_; rintro e w' ⟨rfl, rfl⟩)
    | (go_at_call 47; go_in)
    | (go_at_call 45; refine (fillc_calls g pl p HP.out _ HK1.out HP1.out HNE.out).mono ?_; rintro e w2 ⟨rfl, hk2, hg2⟩))
  have f0 := hk2.frozen 0
  have f1' := hk2.frozen 1
  refine leaves_cons (f := 52) (args := #[.pointer (some ⟨g, 0, none⟩), .bool true]) (by simp) (by simp [go_sem]) ?_
  refine (store_deferred ⟨g, 0, none⟩ (.int .u32 0) .returning _ (hk2.cell tcs_0) f0).mono ?_
  rintro e u' w'' ⟨rfl, rfl, rfl⟩
  have hk3 : BK (w2.drew.setCell ⟨g, 0, none⟩ (.int .u32 1)) g 58 (tcs 1 1 (fullU p) (fullO p) p) := hk2.drew.set 0 (.int .u32 1)
  have hg3 := grown_setCell w2.drew g 0 (.int .u32 1)
  refine leaves_cons (f := 51) (args := #[.pointer (some ⟨g, 1, none⟩)]) (by simp [settle]) (by simp [go_sem]) ?_
  refine (unlock_deferred ⟨g, 1, none⟩ _ _ (hk3.cell tcs_1) (hk3.frozen 1)).mono ?_
  rintro e u' w'' ⟨rfl, rfl, rfl⟩
  have hk4 : BK ((w2.drew.setCell ⟨g, 0, none⟩ (.int .u32 1)).setCell ⟨g, 1, none⟩ (.int .i32 0)) g 58 (tcs 1 0 (fullU p) (fullO p) p) := hk3.set 1 (.int .i32 0)
  have hg4 := grown_setCell (w2.drew.setCell ⟨g, 0, none⟩ (.int .u32 1)) g 1 (.int .i32 0)
  have hgd : w2.grownBy w2.drew (some g) := ⟨rfl, rfl, rfl, Nat.le_refl _, fun _ _ _ => rfl⟩
  have hgall := grown_trans (grown_trans (grown_trans HG1.out hg2) (grown_trans hgd hg3)) hg4
  have key : ∀ w5 : World, BK w5 g 58 (tcs 1 0 (fullU p) (fullO p) p) → w.grownBy w5 (some g) → _ := fun w5 a b => And.intro (rfl : Ending.returned (.tuple #[]) = Ending.returned (.tuple #[])) (And.intro a b)
  have fin := key _ hk4 hgall
  clear key hl hk2 hg2 hk3 hg3 hk4 hg4 hgd hgall h1 f1 f0 f1' HK1 HP1 HG1
  simp [Leaves, settle, results, Try.results48]
  exact ⟨fin.2.1, fin.2.2⟩

set_option maxRecDepth 100000 in
theorem do_first (g pl p : Nat) (hp : bl p = 32) (w : World) (hK : BK w g 58 (tcs 0 0 zs zs p)) (hpl : w.cell? ⟨pl, 0, none⟩ = some (.pointer (some ⟨g, 0, none⟩))) (hne : pl ≠ g) :
    Calls Try.prog 44 #[.pointer (some ⟨g, 0, none⟩), .func (.func 45) #[] #[.pointer (some ⟨pl, 0, none⟩)]] w fun e w' => e = .returned (.tuple #[]) ∧
      BK w' g 58 (tcs 1 0 (fullU p) (fullO p) p) ∧ w.grownBy w' (some g) := by
  have hl := run_call_load (P := Try.prog) Try.func49 (by kernel_rfl) (by kernel_rfl) (by kernel_rfl) .u32 (by kernel_rfl) (hK.cell tcs_0)
  have hnot : ∀ (x : Bool) (w : World), (Op.unary .not (.bool x)).run Try.prog w = .ok (.bool (!x)) w := fun _ _ => rfl
  have HK := Lib.hid hK
  have HPL := Lib.hid hpl
  have HP := Lib.hid hp
  have HNE := Lib.hid hne
  clear hK hpl hp hne
  go_enter Try.func44, Try.ntmps44
  go_wp2_with (first | (go_at_call 48; refine (slow_calls g pl p HP.out _ HK.out HPL.out HNE.out).mono ?_; rintro e w' ⟨rfl, hk, hg⟩) | (go_at_call 47; go_in))
  go_end0
  exact ⟨rfl, hk, hg⟩
theorem do_done (g : Nat) (fv : Value) (w : World) (h0 : w.cell? ⟨g, 0, none⟩ = some (.int .u32 1)) :
    Calls Try.prog 44 #[.pointer (some ⟨g, 0, none⟩), fv] w fun e w' => e = .returned (.tuple #[]) ∧ w = w' := by
  have hl := run_call_load (P := Try.prog) Try.func49 (by kernel_rfl) (by kernel_rfl) (by kernel_rfl) .u32 (by kernel_rfl) h0
  have hnot : ∀ (x : Bool) (w : World), (Op.unary .not (.bool x)).run Try.prog w = .ok (.bool (!x)) w := fun _ _ => rfl
  go_enter Try.func44, Try.ntmps44
  go_wp2_with (go_at_call 47; go_in)
  go_end0
  exact ⟨rfl, rfl⟩

/-- A table that New made, filled or not. -/
def TabIs (w : World) (g p : Nat) : Prop := BK w g 58 (tcs 0 0 zs zs p) ∨ BK w g 58 (tcs 1 0 (fullU p) (fullO p) p)
def TabFull (w : World) (g p : Nat) : Prop := BK w g 58 (tcs 1 0 (fullU p) (fullO p) p)
theorem TabFull.is {w : World} {g p : Nat} (h : TabFull w g p) : TabIs w g p := .inr h
theorem TabIs.lt {w : World} {g p : Nat} (h : TabIs w g p) : g < w.heap.size := by rcases h with h | h <;> exact BK.lt h
theorem TabFull.lt {w : World} {g p : Nat} (h : TabFull w g p) : g < w.heap.size := BK.lt h
theorem TabIs.ext {w w' : World} {g p : Nat} (h : TabIs w g p) (e : Below w.heap.size w w') : TabIs w' g p := h.imp (fun k => BK.ext k e) (fun k => BK.ext k e)
theorem TabFull.ext {w w' : World} {g p : Nat} (h : TabFull w g p) (e : Below w.heap.size w w') : TabFull w' g p := BK.ext h e
theorem TabFull.other {w w' : World} {g g' p : Nat} (h : TabFull w g p) (e : w.grownBy w' (some g')) (hne : g ≠ g') : TabFull w' g p := BK.same h (e.block g (BK.lt h) (fun k => hne (Option.some.inj k)))
theorem TabIs.poly {w : World} {g p : Nat} (h : TabIs w g p) : w.cell? ⟨g, 515, none⟩ = some (.int .u64 (p : Int)) := by
  rcases h with h | h
  · exact h.cell (tcs_poly zs_length zs_length)
  · exact h.cell (tcs_poly (tabTo_length _ _ (Nat.le_refl _)) (tabTo_length _ _ (Nat.le_refl _)))
theorem TabFull.out {w : World} {g p : Nat} (h : TabFull w g p) (i : Nat) (hi : i < 256) : w.cell? ⟨g, 259 + i, none⟩ = some (.int .u64 (outN p i : Nat)) :=
  BK.cell h (tcs_out (tabTo_length _ _ (Nat.le_refl _)) (tabTo_get _ i hi))

theorem fill_calls (g p : Nat) (hp : bl p = 32) (w : World) (hT : TabIs w g p) :
    Calls Try.prog 37 #[.pointer (some ⟨g, 0, none⟩)] w fun e w' => e = .returned (.tuple #[]) ∧ TabFull w' g p ∧ w.grownBy w' (some g) := by
  have hmf : ∀ (fn : Fn) (first cap : Array Value) (w : World), (Instr.makeFunc fn first cap).run Try.prog w = .ok (.func fn first cap) w := fun _ _ _ _ => rfl
  have hgl := hT.lt
  have p0 : (w.alloc (.cells #[.pointer (some ⟨g, 0, none⟩)] 25)).cell? ⟨w.heap.size, 0, none⟩ = some (.pointer (some ⟨g, 0, none⟩)) := by simp
  have P0 := Lib.hid p0
  have HP := Lib.hid hp
  have HNE : Hid (w.heap.size ≠ g) := Lib.hid (by omega)
  clear p0 hp
  rcases hT with hK | hK
  · have HK := Lib.hid (hK.ext (ext_alloc w (.cells #[.pointer (some ⟨g, 0, none⟩)] 25)))
    clear hK hgl
    go_enter Try.func37, Try.ntmps37
    go_wp2_with fail
    refine (do_first g w.heap.size p HP.out _ HK.out P0.out HNE.out).mono ?_
    rintro e w' ⟨rfl, hk, hg⟩
    have HK2 := Lib.hid hk
    have HG2 := Lib.hid (grown_trans (grown_of_below (ext_alloc w _) _) hg)
    clear hk hg
    go_wp2
    go_end0
    exact ⟨rfl, HK2.out, HG2.out⟩
  · have HK := Lib.hid (hK.ext (ext_alloc w (.cells #[.pointer (some ⟨g, 0, none⟩)] 25)))
    have HG2 := Lib.hid (grown_of_below (ext_alloc w (.cells #[.pointer (some ⟨g, 0, none⟩)] 25)) (some g))
    clear hK hgl
    go_enter Try.func37, Try.ntmps37
    go_wp2_with fail
    refine (do_done g _ _ (HK.out.cell tcs_0)).mono ?_
    rintro e w' ⟨rfl, rfl⟩
    go_wp2
    go_end0
    exact ⟨rfl, HK.out, HG2.out⟩
end Go.Proofs.Ytmohjgcnhibkoaa
