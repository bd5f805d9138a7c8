/- The walk of the law RabinPrints. -/
import Derived.Test.YtjlocegopdepeaaRabK
namespace Go.Proofs.Ytjlocegopdepeaa
open Go.RowKit
set_option linter.unusedVariables false

set_option maxRecDepth 8000 in
set_option maxHeartbeats 1000000 in
theorem prints_walk (w : World) (p : Nat) (hp : p ≤ 18446744073709551615) (A : Option Addr) (c : Nat) (l : List UInt8) (h : RB w A l) (hc : l.length ≤ c) (hl : l.length ≤ 140737488351232) :
    Calls Try.prog 14 #[.int .u64 (p : Int), .slice A l.length c] w fun e w' => e = .returned (.bool true) ∧ Below w.heap.size w w' := by
  have HP := Lib.hid (U64.of hp)
  have H := Lib.hid h
  clear hp h
  by_cases hs : 8192 < l.length
  · go_enter Try.func14, Try.ntmps14
    go_wp2_with fail
    refine (awake_calls w).mono ?_
    rintro e w2 ⟨rfl, hb⟩
    have HB := Lib.hid hb
    clear hb
    go_wp2
    go_ret
    exact ⟨rfl, HB.out⟩
  · go_enter Try.func14, Try.ntmps14
    go_wp2_with fail
    refine (table_calls p HP.out w).mono ?_
    rintro e w1 ⟨g, rfl, ht, hg, hb⟩
    have HT1 := Lib.hid ht
    have HB1 := Lib.hid hb
    have hq := tabP_bl p
    generalize tabP p = q at *
    have HQ := Lib.hid hq
    have HH1 := Lib.hid (H.out.ext hb)
    clear ht hb hq
    go_wp2_with fail
    refine (clone_calls A c l w1 HH1.out hl).mono ?_
    rintro e w2 ⟨v, rfl, ho, hb2⟩
    obtain ⟨R, d, rfl, hr, hd, _⟩ := ho.form
    have hgl : g < w1.heap.size := HT1.out.lt
    have hoff : 0 < l.length → Off g R := fun h0 b o e => by
      obtain ⟨g', c', e1, hge, _⟩ := ho.block h0
      injection e1 with ea _ _
      rw [e] at ea
      injection ea with ea
      injection ea with ea _ _
      omega
    have HOFF := Lib.hid hoff
    have HO := Lib.hid ho
    have HR := Lib.hid hr
    have HT2 := Lib.hid (HT1.out.ext hb2)
    have HB2 := Lib.hid (ext_trans HB1.out hb2)
    have HH2 := Lib.hid (HH1.out.ext hb2)
    have hsz := hb2.size
    clear ho hr hb2 hoff HT1
    go_wp2_with fail
    refine (print_calls g q HQ.out R d l w2 HT2.out HR.out HOFF.out (by omega)).mono ?_
    rintro e w3 ⟨rfl, ht3, hg3⟩
    obtain ⟨f, hf⟩ : ∃ f, prN q l = f := ⟨_, rfl⟩
    rw [hf]
    have HF := Lib.hid hf
    have HT3 := Lib.hid ht3
    have HB3 := Lib.hid (below_grown HB2.out hg3 HB2.out.size hg)
    have hA3 : RB w3 A l := H.out.ext HB3.out
    have hR3 : RB w3 R l := HR.out.grown hg3 HOFF.out
    have HA3 := Lib.hid hA3
    have HR3 := Lib.hid hR3
    clear hf ht3 hg3 hA3 hR3 HB2 HT2 HO HH2 HH1 HB1 HR
    go_wp2_with fail
    refine (rprint_calls q HQ.out A c l w3 HA3.out hl).mono ?_
    rintro e w4 ⟨rfl, rfl⟩
    rw [HF.out]
    go_wp2_with fail
    refine (sliceEq_calls R A d c l l w3 HR3.out HA3.out (by omega) (by omega)).mono ?_
    rintro e w4 ⟨rfl, n, rfl⟩
    rw [show (l == l) = true from by simp]
    have ht4 : TabFull (w3.drewN n) g q := HT3.out.ext (ext_drewN (Below.refl _ _) _)
    have hb4 : Below w.heap.size w (w3.drewN n) := ext_drewN HB3.out _
    generalize w3.drewN n = w4 at *
    have hc4 := ht4.is.poly
    have HB4 := Lib.hid hb4
    clear ht4 hb4
    go_wp2_with fail
    refine (poly_calls g q w4 hc4).mono ?_
    rintro e w5 ⟨rfl, rfl⟩
    go_wp2_with fail
    refine (awake_calls w4).mono ?_
    rintro e w5 ⟨rfl, hb⟩
    have HB5 := Lib.hid (HB4.out.trans (hb.mono HB4.out.size))
    clear hb
    go_wp2
    go_ret
    exact ⟨rfl, HB5.out⟩
end Go.Proofs.Ytjlocegopdepeaa
