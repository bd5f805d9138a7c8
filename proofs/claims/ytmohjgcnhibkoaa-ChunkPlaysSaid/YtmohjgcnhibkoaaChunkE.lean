/- flumeref06: First: the walk; where the first chunk ends, plain. -/
import Derived.Test.YtmohjgcnhibkoaaChunkC
import Derived.Test.YtmohjgcnhibkoaaRabJ
namespace Go.Proofs.Ytmohjgcnhibkoaa
open Go.RowKit
set_option linter.unusedVariables false

theorem wnd_take (b : List UInt8) (i : Nat) (h : i + 16 ≤ b.length) : wnd (b.take (i + 16)) = (b.drop i).take 16 := by
  have hl : (b.take (i + 16)).length = i + 16 := by rw [List.length_take]; omega
  have e : b.take (i + 16) = b.take i ++ (b.drop i).take 16 := List.take_add
  rw [e, wnd_after _ _ (by rw [List.length_take, List.length_drop]; omega)]
  unfold wnd
  have h16 : ((b.drop i).take 16).length = 16 := by rw [List.length_take, List.length_drop]; omega
  rw [List.drop_append, List.drop_eq_nil_of_le (by rw [zs16_length]; omega), zs16_length, h16]
  simp
theorem ends_small (p : Nat) (l : List UInt8) (h : l.length < 32) : endsN p l = false := by
  unfold endsN
  rw [decide_eq_false (by omega), decide_eq_false (by omega)]
  rfl
/-- Where none ends, all waits. -/
theorem cut_none (p : Nat) (d : List UInt8) : (∀ m, 1 ≤ m → m ≤ d.length → endsN p (d.take m) = false) → cutS p [] d = ([], d) := by
  induction d using snoc_ind with
  | h0 => intro _; rfl
  | h d x ih =>
    intro h
    have hlen : (d ++ [x]).length = d.length + 1 := by simp
    have h1 := ih fun m a b => by
      have := h m a (by omega)
      rwa [List.take_append_of_le_length b] at this
    have h2 := h (d.length + 1) (by omega) (by omega)
    rw [List.take_of_length_le (by omega)] at h2
    rw [cutS_snoc, h1]
    unfold stepC
    dsimp only
    rw [if_neg (by rw [h2]; decide)]
/-- Where the first one ends. -/
theorem cut_first (p : Nat) (d : List UInt8) (n : Nat) (h1 : 1 ≤ n) (hn : n ≤ d.length) (he : endsN p (d.take n) = true) (h : ∀ m, 1 ≤ m → m < n → endsN p (d.take m) = false) : cutS p [] (d.take n) = ([d.take n], []) := by
  obtain ⟨k, rfl⟩ : ∃ k, n = k + 1 := ⟨n - 1, by omega⟩
  have hk : k < d.length := by omega
  have e := List.take_succ_eq_append_getElem hk
  have hl : (d.take k).length = k := by rw [List.length_take]; omega
  have h2 := cut_none p (d.take k) fun m a b => by
    have := h m a (by omega)
    rwa [List.take_take, Nat.min_eq_left (by omega)]
  rw [e, cutS_snoc, h2]
  unfold stepC
  dsimp only
  rw [← e, if_pos he]
  rfl
theorem rprint_k (p : Nat) (hp : bl p = 32) (A : Option Addr) (c : Nat) (l : List UInt8) (hn : l.length = 16) (w : World) (h : RB w A l) :
    Calls Try.prog 39 #[.int .u64 (p : Int), .slice A 16 c] w fun e w' => e = .returned (.int .u64 (prN p l : Nat)) ∧ w = w' := by
  have := rprint_calls p hp A c l w h (by omega)
  rw [hn] at this
  exact this

set_option maxRecDepth 100000 in
set_option maxHeartbeats 1000000 in
theorem rfirst_calls (p : Nat) (hp : bl p = 32) (A : Option Addr) (c n : Nat) (l : List UInt8) (hn : l.length = n) (w : World) (h : RB w A l) (hc : n ≤ c) (hl : n ≤ 100000) :
    Calls Try.prog 32 #[.int .u64 (p : Int), .slice A n c] w fun e w' => ∃ j : Nat, e = .returned (.int .i64 (j : Int)) ∧ w = w' ∧
      ((j = 0 ∧ ∀ m, 1 ≤ m → m ≤ n → endsN p (l.take m) = false) ∨ (1 ≤ j ∧ j ≤ n ∧ j ≤ 256 ∧ endsN p (l.take j) = true ∧ ∀ m, 1 ≤ m → m < j → endsN p (l.take m) = false)) := by
  have HP := Lib.hid hp
  have H := Lib.hid h
  have HN := Lib.hid hn
  clear hp h hn
  go_enter Try.func32, Try.ntmps32
  go_wp2_with fail
  go_loop [5] (fun v => ∃ i : Nat, v = .int .i64 ((i : Int) + 16) ∧ 16 ≤ i ∧ i ≤ 240 ∧ Hid (∀ m, 1 ≤ m → m < i + 16 → m ≤ n → endsN p (l.take m) = false)) (fun v => 300 - (intOf v).toNat)
  case atStart => exact ⟨16, rfl, by omega, by omega, Lib.hid fun m a b d => ends_small p _ (by rw [List.length_take]; omega)⟩
  case round =>
    obtain ⟨i, rfl, h1, h2, HF⟩ := hrel
    by_cases hin : i + 16 ≤ n
    · have hw := wnd_take l i (by rw [HN.out]; exact hin)
      have htl : (l.take (i + 16)).length = i + 16 := by rw [List.length_take, HN.out]; omega
      by_cases h256 : i = 240
      · subst h256
        have HE : Hid (endsN p (l.take 256) = true) := Lib.hid (by
          unfold endsN
          rw [htl]
          simp)
        clear hw htl
        go_wp2
        go_ret
        exact ⟨256, rfl, rfl, .inr ⟨by omega, by omega, by omega, HE.out, fun m a b => HF.out m a (by omega) (by omega)⟩⟩
      · have d0 : ((i : Int) + 16 == 256) = false := beq_eq_false_iff_ne.2 (by omega)
        obtain ⟨f, hf⟩ : ∃ f, prN p ((l.drop i).take 16) = f := ⟨_, rfl⟩
        have hends : endsN p (l.take (i + 16)) = decide (f % 64 = 63) := by
          unfold endsN
          rw [htl, hw, hf, decide_eq_false (by omega), decide_eq_true (by omega)]
          simp
        obtain ⟨b1, o1, rfl, _⟩ := H.out 0 (by rw [HN.out]; omega)
        have hr := (H.out.drop i).take 16
        have h16 : ((l.drop i).take 16).length = 16 := by rw [List.length_take, List.length_drop, HN.out]; omega
        have HR := Lib.hid hr
        have H16 := Lib.hid h16
        have HFF := Lib.hid hf
        obtain ⟨m, hm⟩ : ∃ m, f % 64 = m := ⟨_, rfl⟩
        rw [hm] at hends
        have hm2 : (f : Int) % 64 = (m : Int) := by omega
        have HEN := Lib.hid hends
        clear hw htl hf hr h16 hends hm
        go_wp2_with fail
        refine (rprint_k p HP.out (some ⟨b1, o1 + i, none⟩) _ _ H16.out w HR.out).mono ?_
        rintro e w' ⟨rfl, rfl⟩
        rw [HFF.out]
        by_cases h63 : m = 63
        · subst h63
          go_wp2
          go_ret
          exact ⟨i + 16, by go_num, rfl, .inr ⟨by omega, by omega, by omega, by rw [HEN.out]; rfl, fun m a b => HF.out m a b (by omega)⟩⟩
        · have d1 : ((m : Int) == 63) = false := beq_eq_false_iff_ne.2 (by omega)
          have HF2 : Hid (∀ m', 1 ≤ m' → m' < i + 1 + 16 → m' ≤ n → endsN p (l.take m') = false) := Lib.hid fun m' a b d => by
            by_cases e : m' = i + 16
            · subst e
              rw [HEN.out, decide_eq_false h63]
            · exact HF.out m' a (by omega) d
          clear h63
          go_wp2
          exact ⟨⟨i + 1, by go_num, by omega, by omega, HF2⟩, by simp [intOf]; omega⟩
    · go_wp2
      go_ret
      exact ⟨0, rfl, rfl, .inl ⟨rfl, fun m a b => HF.out m a (by omega) b⟩⟩
end Go.Proofs.Ytmohjgcnhibkoaa
