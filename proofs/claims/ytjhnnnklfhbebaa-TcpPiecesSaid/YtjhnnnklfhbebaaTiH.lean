/- few, short; a pair among what a law has made. -/
import Derived.Test.YtjhnnnklfhbebaaTiG
namespace Go.Proofs.Ytjhnnnklfhbebaa
open Go.RowKit
set_option linter.unusedVariables false
set_option linter.unusedSimpArgs false
def FewIs (N lim : Nat) (e : Ending) : Prop := ∃ b, e = .returned (.bool b) ∧ (b = true → N ≤ lim)
set_option maxRecDepth 100000 in
set_option maxHeartbeats 1000000 in
theorem few_calls (w : World) (A : Option Addr) (c : Nat) (l : List ActA) (h : RActs w A l) (hc : l.length ≤ c) (hm : c ≤ maxLen) :
    Calls Try.prog 21 #[.slice A l.length c] w fun e w' => FewIs l.length 400 e ∧ w = w' := by
  obtain ⟨N, hN⟩ : ∃ N, l.length = N := ⟨_, rfl⟩
  have HN := Lib.hid hN
  have H := Lib.hid h
  rw [hN] at hc ⊢
  have hm2 : c ≤ 9223372036854775807 := hm
  clear h hN hm
  go_enter Try.func21, Try.ntmps21
  go_wp2_with fail
  go_loopg [3, 4] 402 (fun gk v4 v3 wr => ∃ i n : Nat, v4 = .int .i64 (n : Int) ∧ v3 = .int .i64 (i : Int) ∧ i + gk = 402 ∧ i ≤ N ∧ n ≤ 100000 ∧ wr = w)
  case atStart => exact ⟨0, 0, rfl, rfl, rfl, Nat.zero_le _, Nat.zero_le _, rfl⟩
  case round =>
    obtain ⟨i, n, rfl, rfl, hig, hiN, hn6, rfl⟩ := hrel
    rcases Classical.em (i < N ∧ i ≤ 400 ∧ n ≤ 32768) with hgo | hgo
    · obtain ⟨hi, h4, hn⟩ := hgo
      have hii : (i : Int) < (N : Int) := by omega
      have h4i : (i : Int) ≤ 400 := by omega
      have hni : (n : Int) ≤ 32768 := by omega
      have hwi : IntKind.i64.wrap ((i : Int) + 1) = ((i + 1 : Nat) : Int) := by rw [IntWalk.i64_in _ (by omega)]; omega
      obtain ⟨k, hk⟩ : ∃ k, l[i]? = some k := ⟨_, List.getElem?_eq_getElem (by rw [HN.out]; exact hi)⟩
      obtain ⟨b, o, A', c', rfl, hcell, hat⟩ := H.out i k hk
      obtain ⟨bl, hbl⟩ : ∃ bl, k.b.length = bl := ⟨_, rfl⟩
      have cc : wr.cell? ⟨b, o + i * 6 + 4, none⟩ = some (.slice A' bl c') := by rw [← hbl]; exact hcell 4 _ rfl
      clear hcell hat hbl hk
      rcases Int.lt_or_le 32768 (bl : Int) with hb | hb
      · have hwn : IntKind.i64.wrap ((n : Int) + (32768 : Int)) = ((n + 32768 : Nat) : Int) := by rw [IntWalk.i64_in _ (by omega)]; omega
        go_wp2_with fail
        go_roundg (gk - 1)
        case measure => omega
        case rel => exact ⟨i + 1, n + 32768, by first | rfl | (congr 1), by first | rfl | (congr 1), by omega, by omega, by omega, rfl⟩
      · have hwn : IntKind.i64.wrap ((n : Int) + (bl : Int)) = ((n + bl : Nat) : Int) := by rw [IntWalk.i64_in _ (by omega)]; omega
        go_wp2_with fail
        go_roundg (gk - 1)
        case measure => omega
        case rel => exact ⟨i + 1, n + bl, by first | rfl | (congr 1), by first | rfl | (congr 1), by omega, by omega, by omega, rfl⟩
    rcases Classical.em ((i < N) ∧ (i ≤ 400) ∧ (¬ n ≤ 32768) ∧ (N ≤ 400)) with hx | hx51101
    · obtain ⟨h5, h6, h2, h1⟩ := hx
      have h5i : (i : Int) < (N : Int) := by omega
      have h6i : (i : Int) ≤ 400 := by omega
      have h2i : ¬ (n : Int) ≤ 32768 := by omega
      have h1i : (N : Int) ≤ 400 := by omega
      go_wp2_with fail
      go_ret
      exact ⟨⟨_, rfl, fun _ => by exact h1⟩, rfl⟩
    rcases Classical.em ((i < N) ∧ (i ≤ 400) ∧ (¬ n ≤ 32768) ∧ (¬ N ≤ 400)) with hx | hx51100
    · obtain ⟨h5, h6, h2, h1⟩ := hx
      have h5i : (i : Int) < (N : Int) := by omega
      have h6i : (i : Int) ≤ 400 := by omega
      have h2i : ¬ (n : Int) ≤ 32768 := by omega
      have h1i : ¬ (N : Int) ≤ 400 := by omega
      go_wp2_with fail
      go_ret
      exact ⟨⟨false, rfl, fun e => by cases e⟩, rfl⟩
    rcases Classical.em ((i < N) ∧ (¬ i ≤ 400) ∧ (n ≤ 32768) ∧ (¬ N ≤ 400)) with hx | hx51010
    · obtain ⟨h5, h6, h2, h1⟩ := hx
      have h5i : (i : Int) < (N : Int) := by omega
      have h6i : ¬ (i : Int) ≤ 400 := by omega
      have h2i : (n : Int) ≤ 32768 := by omega
      have h1i : ¬ (N : Int) ≤ 400 := by omega
      go_wp2_with fail
      go_ret
      exact ⟨⟨false, rfl, fun e => by cases e⟩, rfl⟩
    rcases Classical.em ((i < N) ∧ (¬ i ≤ 400) ∧ (¬ n ≤ 32768) ∧ (¬ N ≤ 400)) with hx | hx51000
    · obtain ⟨h5, h6, h2, h1⟩ := hx
      have h5i : (i : Int) < (N : Int) := by omega
      have h6i : ¬ (i : Int) ≤ 400 := by omega
      have h2i : ¬ (n : Int) ≤ 32768 := by omega
      have h1i : ¬ (N : Int) ≤ 400 := by omega
      go_wp2_with fail
      go_ret
      exact ⟨⟨false, rfl, fun e => by cases e⟩, rfl⟩
    rcases Classical.em ((¬ i < N) ∧ (i ≤ 400) ∧ (n ≤ 32768) ∧ (N ≤ 400)) with hx | hx50111
    · obtain ⟨h5, h6, h2, h1⟩ := hx
      have h5i : ¬ (i : Int) < (N : Int) := by omega
      have h6i : (i : Int) ≤ 400 := by omega
      have h2i : (n : Int) ≤ 32768 := by omega
      have h1i : (N : Int) ≤ 400 := by omega
      go_wp2_with fail
      go_ret
      exact ⟨⟨_, rfl, fun _ => by exact h1⟩, rfl⟩
    rcases Classical.em ((¬ i < N) ∧ (i ≤ 400) ∧ (¬ n ≤ 32768) ∧ (N ≤ 400)) with hx | hx50101
    · obtain ⟨h5, h6, h2, h1⟩ := hx
      have h5i : ¬ (i : Int) < (N : Int) := by omega
      have h6i : (i : Int) ≤ 400 := by omega
      have h2i : ¬ (n : Int) ≤ 32768 := by omega
      have h1i : (N : Int) ≤ 400 := by omega
      go_wp2_with fail
      go_ret
      exact ⟨⟨_, rfl, fun _ => by exact h1⟩, rfl⟩
    rcases Classical.em ((¬ i < N) ∧ (¬ i ≤ 400) ∧ (n ≤ 32768) ∧ (¬ N ≤ 400)) with hx | hx50010
    · obtain ⟨h5, h6, h2, h1⟩ := hx
      have h5i : ¬ (i : Int) < (N : Int) := by omega
      have h6i : ¬ (i : Int) ≤ 400 := by omega
      have h2i : (n : Int) ≤ 32768 := by omega
      have h1i : ¬ (N : Int) ≤ 400 := by omega
      go_wp2_with fail
      go_ret
      exact ⟨⟨false, rfl, fun e => by cases e⟩, rfl⟩
    rcases Classical.em ((¬ i < N) ∧ (¬ i ≤ 400) ∧ (¬ n ≤ 32768) ∧ (¬ N ≤ 400)) with hx | hx50000
    · obtain ⟨h5, h6, h2, h1⟩ := hx
      have h5i : ¬ (i : Int) < (N : Int) := by omega
      have h6i : ¬ (i : Int) ≤ 400 := by omega
      have h2i : ¬ (n : Int) ≤ 32768 := by omega
      have h1i : ¬ (N : Int) ≤ 400 := by omega
      go_wp2_with fail
      go_ret
      exact ⟨⟨false, rfl, fun e => by cases e⟩, rfl⟩
    omega
set_option maxRecDepth 100000 in
set_option maxHeartbeats 1000000 in
theorem short_calls (w : World) (A : Option Addr) (c : Nat) (l : List DoA) (h : RDos w A l) (hc : l.length ≤ c) (hm : c ≤ maxLen) :
    Calls Try.prog 13 #[.slice A l.length c] w fun e w' => FewIs l.length 150 e ∧ Below w.heap.size w w' := by
  obtain ⟨N, hN⟩ : ∃ N, l.length = N := ⟨_, rfl⟩
  have HN := Lib.hid hN
  have H0 := Lib.hid h
  rw [hN] at hc ⊢
  have hm2 : c ≤ 9223372036854775807 := hm
  clear h hN hm
  go_enter Try.func13, Try.ntmps13
  go_wp2_with fail
  go_loopg [3, 4] 152 (fun gk v4 v3 wr => ∃ i n : Nat, v4 = .int .i64 (n : Int) ∧ v3 = .int .i64 (i : Int) ∧ i + gk = 152 ∧ i ≤ N ∧ n ≤ 100000 ∧ Below w.heap.size w wr)
  case atStart => exact ⟨0, 0, rfl, rfl, rfl, Nat.zero_le _, Nat.zero_le _, Below.refl _ _⟩
  case round =>
    obtain ⟨i, n, rfl, rfl, hig, hiN, hn6, hwr⟩ := hrel
    have HWR := Lib.hid hwr
    have H := Lib.hid (H0.out.ext hwr)
    clear hwr
    rcases Classical.em (i < N ∧ i ≤ 150 ∧ n ≤ 32768) with hgo | hgo
    · obtain ⟨hi, h4, hn⟩ := hgo
      have hii : (i : Int) < (N : Int) := by omega
      have h4i : (i : Int) ≤ 150 := by omega
      have hni : (n : Int) ≤ 32768 := by omega
      have hwi : IntKind.i64.wrap ((i : Int) + 1) = ((i + 1 : Nat) : Int) := by rw [IntWalk.i64_in _ (by omega)]; omega
      obtain ⟨k, hk⟩ : ∃ k, l[i]? = some k := ⟨_, List.getElem?_eq_getElem (by rw [HN.out]; exact hi)⟩
      obtain ⟨b, o, A', c', B, d, rfl, hcell, hat⟩ := H.out i k hk
      obtain ⟨bl, hbl⟩ : ∃ bl, k.b.length = bl := ⟨_, rfl⟩
      obtain ⟨dl, hdl⟩ : ∃ dl, k.p.data.length = dl := ⟨_, rfl⟩
      have cc : wr.cell? ⟨b, o + i * 15 + 2, none⟩ = some (.slice A' bl c') := by rw [← hbl]; exact hcell 2 _ rfl
      have cd : wr.cell? ⟨b, o + i * 15 + 13, none⟩ = some (.slice B dl d) := by rw [← hdl]; exact hcell 13 _ rfl
      clear hcell hat hbl hdl hk
      rcases Int.lt_or_le 32768 (bl : Int) with hb | hb
      · rcases Int.lt_or_le 32768 (dl : Int) with hd | hd
        · have hws : IntKind.i64.wrap ((32768 : Int) + (32768 : Int)) = ((32768 + 32768 : Nat) : Int) := by rw [IntWalk.i64_in _ (by omega)]; omega
          have hwn : IntKind.i64.wrap ((n : Int) + ((32768 + 32768 : Nat) : Int)) = ((n + (32768 + 32768) : Nat) : Int) := by rw [IntWalk.i64_in _ (by omega)]; omega
          go_wp2_with fail
          go_region
          go_wp2_with fail
          go_roundg (gk - 1)
          case measure => omega
          case rel => exact ⟨i + 1, n + (32768 + 32768), by first | rfl | (congr 1), by first | rfl | (congr 1), by omega, by omega, by omega, ext_drewN HWR.out _⟩
        · have hws : IntKind.i64.wrap ((32768 : Int) + (dl : Int)) = ((32768 + dl : Nat) : Int) := by rw [IntWalk.i64_in _ (by omega)]; omega
          have hwn : IntKind.i64.wrap ((n : Int) + ((32768 + dl : Nat) : Int)) = ((n + (32768 + dl) : Nat) : Int) := by rw [IntWalk.i64_in _ (by omega)]; omega
          go_wp2_with fail
          go_region
          go_wp2_with fail
          go_roundg (gk - 1)
          case measure => omega
          case rel => exact ⟨i + 1, n + (32768 + dl), by first | rfl | (congr 1), by first | rfl | (congr 1), by omega, by omega, by omega, ext_drewN HWR.out _⟩
      · rcases Int.lt_or_le 32768 (dl : Int) with hd | hd
        · have hws : IntKind.i64.wrap ((bl : Int) + (32768 : Int)) = ((bl + 32768 : Nat) : Int) := by rw [IntWalk.i64_in _ (by omega)]; omega
          have hwn : IntKind.i64.wrap ((n : Int) + ((bl + 32768 : Nat) : Int)) = ((n + (bl + 32768) : Nat) : Int) := by rw [IntWalk.i64_in _ (by omega)]; omega
          go_wp2_with fail
          go_region
          go_wp2_with fail
          go_roundg (gk - 1)
          case measure => omega
          case rel => exact ⟨i + 1, n + (bl + 32768), by first | rfl | (congr 1), by first | rfl | (congr 1), by omega, by omega, by omega, ext_drewN HWR.out _⟩
        · have hws : IntKind.i64.wrap ((bl : Int) + (dl : Int)) = ((bl + dl : Nat) : Int) := by rw [IntWalk.i64_in _ (by omega)]; omega
          have hwn : IntKind.i64.wrap ((n : Int) + ((bl + dl : Nat) : Int)) = ((n + (bl + dl) : Nat) : Int) := by rw [IntWalk.i64_in _ (by omega)]; omega
          go_wp2_with fail
          go_region
          go_wp2_with fail
          go_roundg (gk - 1)
          case measure => omega
          case rel => exact ⟨i + 1, n + (bl + dl), by first | rfl | (congr 1), by first | rfl | (congr 1), by omega, by omega, by omega, ext_drewN HWR.out _⟩
    rcases Classical.em ((i < N) ∧ (i ≤ 150) ∧ (¬ n ≤ 32768) ∧ (N ≤ 150)) with hx | hx51101
    · obtain ⟨h5, h6, h2, h1⟩ := hx
      have h5i : (i : Int) < (N : Int) := by omega
      have h6i : (i : Int) ≤ 150 := by omega
      have h2i : ¬ (n : Int) ≤ 32768 := by omega
      have h1i : (N : Int) ≤ 150 := by omega
      go_wp2_with fail
      go_ret
      exact ⟨⟨_, rfl, fun _ => by exact h1⟩, HWR.out⟩
    rcases Classical.em ((i < N) ∧ (i ≤ 150) ∧ (¬ n ≤ 32768) ∧ (¬ N ≤ 150)) with hx | hx51100
    · obtain ⟨h5, h6, h2, h1⟩ := hx
      have h5i : (i : Int) < (N : Int) := by omega
      have h6i : (i : Int) ≤ 150 := by omega
      have h2i : ¬ (n : Int) ≤ 32768 := by omega
      have h1i : ¬ (N : Int) ≤ 150 := by omega
      go_wp2_with fail
      go_ret
      exact ⟨⟨false, rfl, fun e => by cases e⟩, HWR.out⟩
    rcases Classical.em ((i < N) ∧ (¬ i ≤ 150) ∧ (n ≤ 32768) ∧ (¬ N ≤ 150)) with hx | hx51010
    · obtain ⟨h5, h6, h2, h1⟩ := hx
      have h5i : (i : Int) < (N : Int) := by omega
      have h6i : ¬ (i : Int) ≤ 150 := by omega
      have h2i : (n : Int) ≤ 32768 := by omega
      have h1i : ¬ (N : Int) ≤ 150 := by omega
      go_wp2_with fail
      go_ret
      exact ⟨⟨false, rfl, fun e => by cases e⟩, HWR.out⟩
    rcases Classical.em ((i < N) ∧ (¬ i ≤ 150) ∧ (¬ n ≤ 32768) ∧ (¬ N ≤ 150)) with hx | hx51000
    · obtain ⟨h5, h6, h2, h1⟩ := hx
      have h5i : (i : Int) < (N : Int) := by omega
      have h6i : ¬ (i : Int) ≤ 150 := by omega
      have h2i : ¬ (n : Int) ≤ 32768 := by omega
      have h1i : ¬ (N : Int) ≤ 150 := by omega
      go_wp2_with fail
      go_ret
      exact ⟨⟨false, rfl, fun e => by cases e⟩, HWR.out⟩
    rcases Classical.em ((¬ i < N) ∧ (i ≤ 150) ∧ (n ≤ 32768) ∧ (N ≤ 150)) with hx | hx50111
    · obtain ⟨h5, h6, h2, h1⟩ := hx
      have h5i : ¬ (i : Int) < (N : Int) := by omega
      have h6i : (i : Int) ≤ 150 := by omega
      have h2i : (n : Int) ≤ 32768 := by omega
      have h1i : (N : Int) ≤ 150 := by omega
      go_wp2_with fail
      go_ret
      exact ⟨⟨_, rfl, fun _ => by exact h1⟩, HWR.out⟩
    rcases Classical.em ((¬ i < N) ∧ (i ≤ 150) ∧ (¬ n ≤ 32768) ∧ (N ≤ 150)) with hx | hx50101
    · obtain ⟨h5, h6, h2, h1⟩ := hx
      have h5i : ¬ (i : Int) < (N : Int) := by omega
      have h6i : (i : Int) ≤ 150 := by omega
      have h2i : ¬ (n : Int) ≤ 32768 := by omega
      have h1i : (N : Int) ≤ 150 := by omega
      go_wp2_with fail
      go_ret
      exact ⟨⟨_, rfl, fun _ => by exact h1⟩, HWR.out⟩
    rcases Classical.em ((¬ i < N) ∧ (¬ i ≤ 150) ∧ (n ≤ 32768) ∧ (¬ N ≤ 150)) with hx | hx50010
    · obtain ⟨h5, h6, h2, h1⟩ := hx
      have h5i : ¬ (i : Int) < (N : Int) := by omega
      have h6i : ¬ (i : Int) ≤ 150 := by omega
      have h2i : (n : Int) ≤ 32768 := by omega
      have h1i : ¬ (N : Int) ≤ 150 := by omega
      go_wp2_with fail
      go_ret
      exact ⟨⟨false, rfl, fun e => by cases e⟩, HWR.out⟩
    rcases Classical.em ((¬ i < N) ∧ (¬ i ≤ 150) ∧ (¬ n ≤ 32768) ∧ (¬ N ≤ 150)) with hx | hx50000
    · obtain ⟨h5, h6, h2, h1⟩ := hx
      have h5i : ¬ (i : Int) < (N : Int) := by omega
      have h6i : ¬ (i : Int) ≤ 150 := by omega
      have h2i : ¬ (n : Int) ≤ 32768 := by omega
      have h1i : ¬ (N : Int) ≤ 150 := by omega
      go_wp2_with fail
      go_ret
      exact ⟨⟨false, rfl, fun e => by cases e⟩, HWR.out⟩
    omega
/-- A pair that a law has made, behind so many acts. -/
def PlayAt (w0 : World) (g : Nat) (P : PS) (m : Nat) (W : World) : Prop := ∃ V, Made w0 (pItems g P V) W ∧ KOk P V ∧ PGood P m
theorem PlayAt.ext {w0 W W' : World} {g m : Nat} {P : PS} (h : PlayAt w0 g P m W) (hb : Below W.heap.size W W') : PlayAt w0 g P m W' := by
  obtain ⟨V, h1, h2⟩ := h
  exact ⟨V, h1.ext hb, h2⟩
theorem Made.goes {w0 W W' : World} {l l' : List Item} (h : Made w0 l W) (hg : Goes (fun b => b < w0.heap.size) l W l' W') : Made w0 l' W' := ⟨hg.all, only_below h.1 h.2 hg.only⟩
theorem begun_play (w : World) (iss irs : Nat) (hi : iss < 4294967296) (hr : irs < 4294967296) :
    Calls Try.prog 22 #[.int .u32 (iss : Int), .int .u32 (irs : Int)] w fun e w' => ∃ g, e = .returned (.pointer (some ⟨g, 0, none⟩)) ∧ PlayAt w g (PS.begun iss irs) 0 w' := by
  refine (begun_calls (N := fun b => b < w.heap.size) (fun b hb => hb) iss irs hi).mono ?_
  rintro e w' ⟨g, V, rfl, hb, ha, ho, hk1, k, hk0⟩
  refine ⟨g, rfl, V, ⟨ha, hb⟩, fun i h2 => ?_, begun_good hi hr⟩
  have e0 : ((PS.begun iss irs).c i).state = ((PS.asked (askS iss) irs).c i).state := by
    unfold PS.begun PS.out
    rw [outI_st, outI_st]
  rw [e0]
  rcases two_cases h2 with rfl | rfl
  · rw [hk0]
    refine ⟨fun e => (by cases e), fun e => absurd e ?_⟩
    have := (TS.dial_fine hi (ask_dial iss)).2.1
    show ¬ (askS iss).state = 0
    omega
  · rw [hk1]
    exact Iff.intro (fun _ => rfl) (fun _ => rfl)
theorem does_play {w0 W : World} {g m : Nat} {P : PS} (h : PlayAt w0 g P m W) (hm : m ≤ 100000000) (k : ActA) (A : Option Addr) (c : Nat) (ha : ActA.At w0 k A c) :
    Calls Try.prog 23 #[.pointer (some ⟨g, 0, none⟩), .agg (k.cs A c).toArray] W fun e W' => e = .returned (.tuple #[]) ∧ PlayAt w0 g (P.does k) (m + 1) W' := by
  obtain ⟨V, h1, h2, h3⟩ := h
  have hbl : k.b.length ≤ 9223372036854775807 := Nat.le_trans ha.bc ha.cm
  refine (does_calls h1.1 h2 h3 hm k A c (ha.ext h1.2) hbl (fun h0 b o e => ?_)).mono ?_
  · obtain ⟨b', o', e', hc⟩ := ha.rb 0 h0
    rw [e] at e'
    injection e' with e'
    injection e' with e5 e6
    subst e5
    exact World.block_lt_of_cell? w0 _ hc
  · rintro e W' ⟨rfl, V', hg, hk⟩
    exact ⟨rfl, V', h1.goes hg, hk, h3.does k⟩
def PS.plays (P : PS) (l : List ActA) : PS := l.foldl PS.does P
theorem plays_snoc (P : PS) {l : List ActA} {i : Nat} {k : ActA} (h : l[i]? = some k) : P.plays (l.take (i + 1)) = (P.plays (l.take i)).does k := by
  rw [List.take_add_one, h]
  show (l.take i ++ [k]).foldl PS.does P = _
  rw [List.foldl_append]
  rfl
end Go.Proofs.Ytjhnnnklfhbebaa
