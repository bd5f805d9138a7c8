/- Two alike pairs beside one another: what a look at both finds. -/
import Derived.Test.YtjhnnnklfhbebaaTiM
namespace Go.Proofs.Ytjhnnnklfhbebaa
open Go.RowKit
set_option linter.unusedVariables false
set_option linter.unusedSimpArgs false
/-- The pairs' cells for a side, and what the calls on them answer. -/
theorem SmAt.look {L : List Item} {w0 W0 : World} {gp gq gx m mx i : Nat} {P X : PS} (h : SmAt w0 gp gq gx P X m mx L W0) (hi : i < 2) :
    ∃ (pv qv bp bq rp rq : Value) (a b c d e : Int) (f g : Bool),
      (∀ W, Below W0.heap.size W0 W → W.cell? ⟨gp, i, none⟩ = some pv ∧ W.cell? ⟨gp, 3 + i, none⟩ = some bp ∧ W.cell? ⟨gp, 7 + i, none⟩ = some rp ∧ W.cell? ⟨gq, i, none⟩ = some qv ∧ W.cell? ⟨gq, 3 + i, none⟩ = some bq ∧ W.cell? ⟨gq, 7 + i, none⟩ = some rq) ∧
      (∀ W, Below W0.heap.size W0 W → Calls Try.prog 24 #[bp, bq, .func (.func 25) #[] #[]] W fun e w' => e = .returned (.bool true) ∧ Below W.heap.size W w') ∧
      (∀ W, Below W0.heap.size W0 W → Calls Try.prog 26 #[pv] W fun x w' => x = .returned (.agg #[.int .i64 a, .int .i64 b, .int .i64 c, .int .i64 d, .int .i64 e, .bool f, .bool g]) ∧ Below W.heap.size W w') ∧
      (∀ W, Below W0.heap.size W0 W → Calls Try.prog 26 #[qv] W fun x w' => x = .returned (.agg #[.int .i64 a, .int .i64 b, .int .i64 c, .int .i64 d, .int .i64 e, .bool f, .bool g]) ∧ Below W.heap.size W w') ∧
      (∀ W, Below W0.heap.size W0 W → Calls Try.prog 27 #[rp, rq] W fun e w' => e = .returned (.bool true) ∧ W = w') := by
  obtain ⟨Vp, Vq, Vx, h1, h2, h3, h4, h5, h6⟩ := h
  have hp : ∀ W, Below W0.heap.size W0 W → ∃ N, All N (pItems gp P Vp) W := fun W hb => ⟨_, (h1.ext hb).1.many (j := 0) rfl⟩
  have hq : ∀ W, Below W0.heap.size W0 W → ∃ N, All N (pItems gq P Vq) W := fun W hb => ⟨_, (h1.ext hb).1.many (j := 1) rfl⟩
  obtain ⟨sb, sc, sd, se, sx, sf, sg, htell, _⟩ := tellB (h5.fine.fine i hi).ok
  refine ⟨ptr (Vp.k i), ptr (Vq.k i), Vp.b i, Vq.b i, Vp.r i, Vq.r i, sb, sc, sd, se, sx, sf, sg, fun W hb => ?_, fun W hb => ?_, fun W hb => ?_, fun W hb => ?_, fun W hb => ?_⟩
  · obtain ⟨N, hp⟩ := hp W hb
    obtain ⟨M, hq⟩ := hq W hb
    have kp := (hp.get 0 p_bk).1
    have kq := (hq.get 0 p_bk).1
    exact ⟨kp.cell (c_ptr hi), kp.cell (c_row hi), kp.cell (c_rd hi), kq.cell (c_ptr hi), kq.cell (c_row hi), kq.cell (c_rd hi)⟩
  · obtain ⟨N, hp⟩ := hp W hb
    obtain ⟨M, hq⟩ := hq W hb
    refine (eqfunc_calls (hp.get _ (p_row hi)) (hq.get _ (p_row hi))).mono ?_
    rintro e w' ⟨⟨b, rfl, hb⟩, hB⟩
    exact ⟨by rw [hb.2 rfl], hB⟩
  · obtain ⟨N, hp⟩ := hp W hb
    have := side_end hp (p_side hi)
    rw [htell] at this
    exact this
  · obtain ⟨N, hq⟩ := hq W hb
    have := side_end hq (p_side hi)
    rw [htell] at this
    exact this
  · obtain ⟨N, hp⟩ := hp W hb
    obtain ⟨M, hq⟩ := hq W hb
    obtain ⟨A, c, e1, r1, _⟩ := (hp.get _ (p_rd hi)).1.form
    obtain ⟨B, d, e2, r2, _⟩ := (hq.get _ (p_rd hi)).1.form
    rw [e1, e2]
    refine (equal_calls A B c d _ _ W r1 r2).mono ?_
    rintro e w' ⟨rfl, rfl⟩
    exact ⟨by rw [beq_self_eq_true], rfl⟩
end Go.Proofs.Ytjhnnnklfhbebaa
