/- slices.EqualFunc of two rows of packets. -/
import Derived.Test.YtjhnnnklfhbebaaTiI
namespace Go.Proofs.Ytjhnnnklfhbebaa
open Go.RowKit
set_option linter.unusedVariables false
set_option linter.unusedSimpArgs false
/-- A call tells whether. -/
def Tells (φ : Prop) (e : Ending) : Prop := ∃ b, e = .returned (.bool b) ∧ (b = true ↔ φ)
theorem tells_true {φ : Prop} (h : φ) : Tells φ (.returned (.bool true)) := ⟨true, rfl, fun _ => h, fun _ => rfl⟩
theorem tells_false {φ : Prop} (h : ¬ φ) : Tells φ (.returned (.bool false)) := ⟨false, rfl, fun e => (by cases e), fun e => absurd e h⟩
theorem take_snoc_eq {α : Type} {l m : List α} {q : Nat} {x : α} (h : l.take q = m.take q) (h1 : l[q]? = some x) (h2 : m[q]? = some x) : l.take (q + 1) = m.take (q + 1) := by
  rw [List.take_add_one, List.take_add_one, h, h1, h2]
set_option maxRecDepth 100000 in
set_option maxHeartbeats 2000000 in
theorem eqfunc_calls {N M : Nat → Prop} {w : World} {v v' : Value} {ps qs : List Pk} (h : (Item.row v ps).is N w) (k : (Item.row v' qs).is M w) :
    Calls Try.prog 24 #[v, v', .func (.func 25) #[] #[]] w fun e w' => Tells (ps = qs) e ∧ Below w.heap.size w w' := by
  have H := Lib.hid h
  have K := Lib.hid k
  obtain ⟨A, cap, rfl, hca, hma, hA⟩ := row_form' h
  obtain ⟨B, cap2, rfl, hcb, hmb, hB⟩ := row_form' k
  obtain ⟨n, hn⟩ : ∃ n, ps.length = n := ⟨_, rfl⟩
  obtain ⟨m, hm⟩ : ∃ m, qs.length = m := ⟨_, rfl⟩
  rw [hn] at H hca hA ⊢
  rw [hm] at K hcb hB ⊢
  have HN := Lib.hid hn
  have HM := Lib.hid hm
  have hnm : n ≤ 9223372036854775807 := by have : cap ≤ 9223372036854775807 := hma; omega
  clear h k hn hm hma hmb
  go_enter Try.func24, Try.ntmps24
  by_cases hlen : n = m
  · subst hlen
    go_wp2_with fail
    go_loopg [17] n (fun gk v wr => ∃ q : Nat, v = .int .i64 (q : Int) ∧ q + gk = n ∧ Hid (ps.take q = qs.take q) ∧ Hid (Below w.heap.size w wr))
    case atStart => exact ⟨0, rfl, by omega, Lib.hid rfl, Lib.hid (Below.refl _ _)⟩
    case round =>
      obtain ⟨q, rfl, hqg, HT, HBW⟩ := hrel
      by_cases hq : q < n
      · have hqi : (q : Int) < (n : Int) := by omega
        have hwq : IntKind.i64.wrap ((q : Int) + 1) = ((q + 1 : Nat) : Int) := by rw [IntWalk.i64_in _ (by omega)]; omega
        obtain ⟨ga, rfl⟩ := hA (by omega)
        obtain ⟨gb, rfl⟩ := hB (by omega)
        obtain ⟨p, hp⟩ : ∃ p, ps[q]? = some p := ⟨_, List.getElem?_eq_getElem (by rw [HN.out]; exact hq)⟩
        obtain ⟨r, hr⟩ : ∃ r, qs[q]? = some r := ⟨_, List.getElem?_eq_getElem (by rw [HM.out]; exact hq)⟩
        obtain ⟨A1, n1, c1, hat⟩ := row_at ((Item.row _ ps).fr H.out fun i hi _ => HBW.out.block i hi) rfl hp
        obtain ⟨A2, n2, c2, hat2⟩ := row_at ((Item.row _ qs).fr K.out fun i hi _ => HBW.out.block i hi) rfl hr
        obtain ⟨q0, q1, q2, q3, q4, q5, q6, q7, q8, q9, q10⟩ : wr.cell? ⟨ga, q * 11, none⟩ = some (.int .i64 p.src) ∧ wr.cell? ⟨ga, q * 11 + 1, none⟩ = some (.int .i64 p.dst) ∧ wr.cell? ⟨ga, q * 11 + 2, none⟩ = some (.int .i64 p.sp) ∧ wr.cell? ⟨ga, q * 11 + 3, none⟩ = some (.int .i64 p.dp) ∧ wr.cell? ⟨ga, q * 11 + 4, none⟩ = some (.int .u32 (p.seq : Int)) ∧ wr.cell? ⟨ga, q * 11 + 5, none⟩ = some (.int .u32 (p.ack : Int)) ∧ wr.cell? ⟨ga, q * 11 + 6, none⟩ = some (.int .i64 p.fl) ∧ wr.cell? ⟨ga, q * 11 + 7, none⟩ = some (.int .i64 p.wn) ∧ wr.cell? ⟨ga, q * 11 + 8, none⟩ = some (.int .i64 p.pr) ∧ wr.cell? ⟨ga, q * 11 + 9, none⟩ = some (.int .i64 p.og) ∧ wr.cell? ⟨ga, q * 11 + 10, none⟩ = some (.slice A1 n1 c1) := ⟨hat.c0, hat.c1, hat.c2, hat.c3, hat.c4, hat.c5, hat.c6, hat.c7, hat.c8, hat.c9, hat.c10⟩
        obtain ⟨z0, z1, z2, z3, z4, z5, z6, z7, z8, z9, z10⟩ : wr.cell? ⟨gb, q * 11, none⟩ = some (.int .i64 r.src) ∧ wr.cell? ⟨gb, q * 11 + 1, none⟩ = some (.int .i64 r.dst) ∧ wr.cell? ⟨gb, q * 11 + 2, none⟩ = some (.int .i64 r.sp) ∧ wr.cell? ⟨gb, q * 11 + 3, none⟩ = some (.int .i64 r.dp) ∧ wr.cell? ⟨gb, q * 11 + 4, none⟩ = some (.int .u32 (r.seq : Int)) ∧ wr.cell? ⟨gb, q * 11 + 5, none⟩ = some (.int .u32 (r.ack : Int)) ∧ wr.cell? ⟨gb, q * 11 + 6, none⟩ = some (.int .i64 r.fl) ∧ wr.cell? ⟨gb, q * 11 + 7, none⟩ = some (.int .i64 r.wn) ∧ wr.cell? ⟨gb, q * 11 + 8, none⟩ = some (.int .i64 r.pr) ∧ wr.cell? ⟨gb, q * 11 + 9, none⟩ = some (.int .i64 r.og) ∧ wr.cell? ⟨gb, q * 11 + 10, none⟩ = some (.slice A2 n2 c2) := ⟨hat2.c0, hat2.c1, hat2.c2, hat2.c3, hat2.c4, hat2.c5, hat2.c6, hat2.c7, hat2.c8, hat2.c9, hat2.c10⟩
        have HSM : Hid (∀ W : World, Below wr.heap.size wr W → Calls Try.prog 25 #[.agg (p.cs A1 n1 c1).toArray, .agg (r.cs A2 n2 c2).toArray] W fun e w' => e = .returned (.bool (sameP p r)) ∧ Below W.heap.size W w') := Lib.hid fun W hb => same_n p r A1 A2 n1 c1 n2 c2 hat.len.symm hat2.len.symm W (hat.rb.ext hb) (hat2.rb.ext hb)
        simp only [Pk.cs] at HSM
        have HP := Lib.hid hp
        have HR := Lib.hid hr
        clear hat hat2 hp hr hA hB
        have hgb : gb < wr.heap.size := World.block_lt_of_cell? wr _ z0
        go_upto_region 7 with fail
        obtain ⟨gx, hgx⟩ : ∃ gx, wr.heap.size = gx := ⟨_, rfl⟩
        have e1 : (wr.alloc (.cells #[.int .i64 p.src, .int .i64 p.dst, .int .i64 p.sp, .int .i64 p.dp, .int .u32 (p.seq : Int), .int .u32 (p.ack : Int), .int .i64 p.fl, .int .i64 p.wn, .int .i64 p.pr, .int .i64 p.og, .slice A1 n1 c1] 32)).heap.size = gx + 1 := by rw [← hgx]; simp
        have hw8 : Below wr.heap.size wr ((wr.alloc (.cells #[.int .i64 p.src, .int .i64 p.dst, .int .i64 p.sp, .int .i64 p.dp, .int .u32 (p.seq : Int), .int .u32 (p.ack : Int), .int .i64 p.fl, .int .i64 p.wn, .int .i64 p.pr, .int .i64 p.og, .slice A1 n1 c1] 32)).alloc (.cells #[.int .i64 r.src, .int .i64 r.dst, .int .i64 r.sp, .int .i64 r.dp, .int .u32 (r.seq : Int), .int .u32 (r.ack : Int), .int .i64 r.fl, .int .i64 r.wn, .int .i64 r.pr, .int .i64 r.og, .slice A2 n2 c2] 32)) ∧ BK ((wr.alloc (.cells #[.int .i64 p.src, .int .i64 p.dst, .int .i64 p.sp, .int .i64 p.dp, .int .u32 (p.seq : Int), .int .u32 (p.ack : Int), .int .i64 p.fl, .int .i64 p.wn, .int .i64 p.pr, .int .i64 p.og, .slice A1 n1 c1] 32)).alloc (.cells #[.int .i64 r.src, .int .i64 r.dst, .int .i64 r.sp, .int .i64 r.dp, .int .u32 (r.seq : Int), .int .u32 (r.ack : Int), .int .i64 r.fl, .int .i64 r.wn, .int .i64 r.pr, .int .i64 r.og, .slice A2 n2 c2] 32)) gx 32 [.int .i64 p.src, .int .i64 p.dst, .int .i64 p.sp, .int .i64 p.dp, .int .u32 (p.seq : Int), .int .u32 (p.ack : Int), .int .i64 p.fl, .int .i64 p.wn, .int .i64 p.pr, .int .i64 p.og, .slice A1 n1 c1] ∧ BK ((wr.alloc (.cells #[.int .i64 p.src, .int .i64 p.dst, .int .i64 p.sp, .int .i64 p.dp, .int .u32 (p.seq : Int), .int .u32 (p.ack : Int), .int .i64 p.fl, .int .i64 p.wn, .int .i64 p.pr, .int .i64 p.og, .slice A1 n1 c1] 32)).alloc (.cells #[.int .i64 r.src, .int .i64 r.dst, .int .i64 r.sp, .int .i64 r.dp, .int .u32 (r.seq : Int), .int .u32 (r.ack : Int), .int .i64 r.fl, .int .i64 r.wn, .int .i64 r.pr, .int .i64 r.og, .slice A2 n2 c2] 32)) (gx + 1) 32 [.int .i64 r.src, .int .i64 r.dst, .int .i64 r.sp, .int .i64 r.dp, .int .u32 (r.seq : Int), .int .u32 (r.ack : Int), .int .i64 r.fl, .int .i64 r.wn, .int .i64 r.pr, .int .i64 r.og, .slice A2 n2 c2] := by
          refine ⟨ext_trans (ext_alloc _ _) (ext_alloc _ _), ?_, ?_⟩
          · rw [← hgx]
            exact (BK.new wr _ [.int .i64 p.src, .int .i64 p.dst, .int .i64 p.sp, .int .i64 p.dp, .int .u32 (p.seq : Int), .int .u32 (p.ack : Int), .int .i64 p.fl, .int .i64 p.wn, .int .i64 p.pr, .int .i64 p.og, .slice A1 n1 c1]).ext (ext_alloc _ _)
          · rw [← e1]
            exact BK.new _ _ [.int .i64 r.src, .int .i64 r.dst, .int .i64 r.sp, .int .i64 r.dp, .int .u32 (r.seq : Int), .int .u32 (r.ack : Int), .int .i64 r.fl, .int .i64 r.wn, .int .i64 r.pr, .int .i64 r.og, .slice A2 n2 c2]
        refine name_world (fun W => Below wr.heap.size wr W ∧ BK W gx 32 [.int .i64 p.src, .int .i64 p.dst, .int .i64 p.sp, .int .i64 p.dp, .int .u32 (p.seq : Int), .int .u32 (p.ack : Int), .int .i64 p.fl, .int .i64 p.wn, .int .i64 p.pr, .int .i64 p.og, .slice A1 n1 c1] ∧ BK W (gx + 1) 32 [.int .i64 r.src, .int .i64 r.dst, .int .i64 r.sp, .int .i64 r.dp, .int .u32 (r.seq : Int), .int .u32 (r.ack : Int), .int .i64 r.fl, .int .i64 r.wn, .int .i64 r.pr, .int .i64 r.og, .slice A2 n2 c2]) hw8 ?_
        clear hw8
        rintro w8 ⟨hb8, hk8, hk9⟩
        try rw [e1]
        rw [hgx]
        have y0 : w8.cell? ⟨gx, 0, none⟩ = some (.int .i64 p.src) := hk8.cell rfl
        have y1 : w8.cell? ⟨gx, 1, none⟩ = some (.int .i64 p.dst) := hk8.cell rfl
        have y2 : w8.cell? ⟨gx, 2, none⟩ = some (.int .i64 p.sp) := hk8.cell rfl
        have y3 : w8.cell? ⟨gx, 3, none⟩ = some (.int .i64 p.dp) := hk8.cell rfl
        have y4 : w8.cell? ⟨gx, 4, none⟩ = some (.int .u32 (p.seq : Int)) := hk8.cell rfl
        have y5 : w8.cell? ⟨gx, 5, none⟩ = some (.int .u32 (p.ack : Int)) := hk8.cell rfl
        have y6 : w8.cell? ⟨gx, 6, none⟩ = some (.int .i64 p.fl) := hk8.cell rfl
        have y7 : w8.cell? ⟨gx, 7, none⟩ = some (.int .i64 p.wn) := hk8.cell rfl
        have y8 : w8.cell? ⟨gx, 8, none⟩ = some (.int .i64 p.pr) := hk8.cell rfl
        have y9 : w8.cell? ⟨gx, 9, none⟩ = some (.int .i64 p.og) := hk8.cell rfl
        have y10 : w8.cell? ⟨gx, 10, none⟩ = some (.slice A1 n1 c1) := hk8.cell rfl
        have x0 : w8.cell? ⟨gx + 1, 0, none⟩ = some (.int .i64 r.src) := hk9.cell rfl
        have x1 : w8.cell? ⟨gx + 1, 1, none⟩ = some (.int .i64 r.dst) := hk9.cell rfl
        have x2 : w8.cell? ⟨gx + 1, 2, none⟩ = some (.int .i64 r.sp) := hk9.cell rfl
        have x3 : w8.cell? ⟨gx + 1, 3, none⟩ = some (.int .i64 r.dp) := hk9.cell rfl
        have x4 : w8.cell? ⟨gx + 1, 4, none⟩ = some (.int .u32 (r.seq : Int)) := hk9.cell rfl
        have x5 : w8.cell? ⟨gx + 1, 5, none⟩ = some (.int .u32 (r.ack : Int)) := hk9.cell rfl
        have x6 : w8.cell? ⟨gx + 1, 6, none⟩ = some (.int .i64 r.fl) := hk9.cell rfl
        have x7 : w8.cell? ⟨gx + 1, 7, none⟩ = some (.int .i64 r.wn) := hk9.cell rfl
        have x8 : w8.cell? ⟨gx + 1, 8, none⟩ = some (.int .i64 r.pr) := hk9.cell rfl
        have x9 : w8.cell? ⟨gx + 1, 9, none⟩ = some (.int .i64 r.og) := hk9.cell rfl
        have x10 : w8.cell? ⟨gx + 1, 10, none⟩ = some (.slice A2 n2 c2) := hk9.cell rfl
        have HB8 := Lib.hid hb8
        clear hb8 hk8 hk9 hgx e1 hgb q0 q1 q2 q3 q4 q5 q6 q7 q8 q9 q10 z0 z1 z2 z3 z4 z5 z6 z7 z8 z9 z10
        go_wp2_with fail
        refine (HSM.out _ HB8.out).mono ?_
        rintro e w9 ⟨rfl, hb9⟩
        have HB9 := Lib.hid (ext_trans HBW.out (ext_trans HB8.out hb9))
        clear hb9 HSM HB8 y0 y1 y2 y3 y4 y5 y6 y7 y8 y9 y10 x0 x1 x2 x3 x4 x5 x6 x7 x8 x9 x10
        by_cases hxy : p = r
        · subst hxy
          have HS := Lib.hid (take_snoc_eq HT.out HP.out HR.out)
          rw [sameP_self]
          go_wp2_with fail
          go_roundg (gk - 1)
          case measure => omega
          case rel => exact ⟨q + 1, by first | rfl | (congr 1), by omega, HS, HB9⟩
        · have HF : Hid (Tells (ps = qs) (.returned (.bool false))) := Lib.hid (tells_false (by
            rintro rfl
            have e := HP.out.symm.trans HR.out
            injection e with e
            exact hxy e))
          rw [show sameP p r = false from by
            cases hs : sameP p r with
            | false => rfl
            | true => exact absurd ((sameP_iff p r).1 hs) hxy]
          clear hxy
          go_wp2_with fail
          go_ret
          exact ⟨HF.out, HB9.out⟩
      · obtain rfl : q = n := by omega
        have HF : Hid (Tells (ps = qs) (.returned (.bool true))) := Lib.hid (tells_true (by
          have := HT.out
          rw [List.take_of_length_le (by rw [HN.out]; exact Nat.le_refl _), List.take_of_length_le (by rw [HM.out]; exact Nat.le_refl _)] at this
          exact this))
        go_wp2_with fail
        go_ret
        exact ⟨HF.out, HBW.out⟩
  · have d0 : ((n : Int) != (m : Int)) = true := by rw [bne_iff_ne]; omega
    have HF : Hid (Tells (ps = qs) (.returned (.bool false))) := Lib.hid (tells_false (by
      rintro rfl
      exact hlen (HN.out.symm.trans HM.out)))
    clear hlen
    go_wp2_with fail
    go_ret
    exact ⟨HF.out, Below.refl _ _⟩
end Go.Proofs.Ytjhnnnklfhbebaa
