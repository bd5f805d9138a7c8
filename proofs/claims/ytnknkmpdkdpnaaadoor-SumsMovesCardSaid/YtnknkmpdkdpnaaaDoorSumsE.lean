/- The law's helpers: awake, light; the reference's Add and Update. -/
import Derived.Test.YtnknkmpdkdpnaaaDoorSumsD
import Derived.Lib.SlBytesConst
namespace Go.Proofs.YtnknkmpdkdpnaaaDoor
open Go.RowKit

/-- What lies in a block of bytes. -/
theorem RB.block {w : World} {g : Nat} {C : Array Value} {e : TypeId} {fr : Nat × Nat} (h : w.heap[g]? = some (.cells C e fr)) (l : List UInt8) (hC : C = (l.map vb).toArray) : RB w (some ⟨g, 0, none⟩) l := by
  subst hC
  intro i hi
  refine ⟨g, 0, rfl, ?_⟩
  unfold World.cell?
  simp only [h, Nat.zero_add]
  simpa using gb_get l i hi
theorem RBB.block2 {w : World} {g : Nat} {e : TypeId} {fr : Nat × Nat} {A1 A2 : Option Addr} {n1 c1 n2 c2 : Nat} (h : w.heap[g]? = some (.cells #[.slice A1 n1 c1, .slice A2 n2 c2] e fr)) (l1 l2 : List UInt8)
    (h1 : RB w A1 l1) (h2 : RB w A2 l2) (e1 : n1 = l1.length) (e2 : n2 = l2.length) (k1 : n1 ≤ c1) (k2 : n2 ≤ c2) : RBB w (some ⟨g, 0, none⟩) [l1, l2] := by
  subst e1 e2
  intro i hi
  have hi' : i < 2 := by simpa using hi
  match i, hi' with
  | 0, _ => exact ⟨g, 0, A1, c1, rfl, by simp [World.cell?, h], h1, k1⟩
  | 1, _ => exact ⟨g, 0, A2, c2, rfl, by simp [World.cell?, h], h2, k2⟩
theorem RBB.block1 {w : World} {g : Nat} {e : TypeId} {fr : Nat × Nat} {A1 : Option Addr} {n1 c1 : Nat} (h : w.heap[g]? = some (.cells #[.slice A1 n1 c1] e fr)) (l1 : List UInt8)
    (h1 : RB w A1 l1) (e1 : n1 = l1.length) (k1 : n1 ≤ c1) : RBB w (some ⟨g, 0, none⟩) [l1] := by
  subst e1
  intro i hi
  obtain rfl : i = 0 := by simpa using hi
  exact ⟨g, 0, A1, c1, rfl, by simp [World.cell?, h], h1, k1⟩
theorem Nib.below {w w' : World} (h : Nib w) (e : Below w.heap.size w w') : Nib w' := h.ext e
def t1 : List UInt8 := [49, 50, 51, 52, 53]
def t2 : List UInt8 := [54, 55, 56, 57]
def t3 : List UInt8 := [0, 1, 242, 3, 244, 245, 246, 247]
theorem crc_t : crcN [t1, t2] = 3421780262 := by decide +kernel
theorem inet_t : inetN [t3] = 8717 := by decide +kernel

set_option maxHeartbeats 1000000 in
theorem awake_calls (w : World) (hN : Nib w) :
    Calls Tryd.prog 15 #[] w fun e w' => e = .returned (.bool true) ∧ Below w.heap.size w w' := by
  have HN := Lib.hid hN
  clear hN
  have kc := fun (C : Array Value) (n c : Nat) => Lib.run_convert_bytes_const (P := Tryd.prog) w 22 5 C n c Tryd.underlying22 Tryd.underlying5
  have kd := fun (C : Array Value) (n c : Nat) => Lib.run_convert_bytes_const (P := Tryd.prog) (w.alloc (.cells #[.int .u8 49, .int .u8 50, .int .u8 51, .int .u8 52, .int .u8 53] 5 (5, 6))) 22 5 C n c Tryd.underlying22 Tryd.underlying5
  simp at kd
  go_enter Tryd.func15, Tryd.ntmps15
  go_wp2_with fail
  refine (crc_calls _ _ [t1, t2] _ (HN.out.ext (((ext_alloc _ _).alloc (by simp) _).alloc (by (try simp) <;> omega) _)) (RBB.block2 (e := 22) (fr := (0, 0)) (A1 := some ⟨w.heap.size, 0, none⟩) (A2 := some ⟨w.heap.size + 1, 0, none⟩) (n1 := 5) (c1 := 5) (n2 := 4) (c2 := 4) ?h1 t1 t2 (RB.block (e := 5) (fr := (5, 6)) ?h2 t1 rfl) (RB.block (e := 5) (fr := (4, 5)) ?h3 t2 rfl) rfl rfl (by omega) (by omega)) ?h4 ?h5).mono ?_
  case h1 => exact heap_new _ _ (by simp)
  case h2 => exact heap_old (heap_old (heap_new _ _ rfl))
  case h3 => exact heap_old (heap_new _ _ (by simp))
  case h4 => simp
  case h5 => intro i hi; simp [t1, t2] at hi ⊢; match i, hi with | 0, _ => simp | 1, _ => simp
  rintro e w' ⟨rfl, rfl⟩; rw [crc_t]
  have hb3 := (((ext_alloc w (.cells #[.int .u8 49, .int .u8 50, .int .u8 51, .int .u8 52, .int .u8 53] 5 (5, 6))).alloc (by simp) (.cells #[.int .u8 54, .int .u8 55, .int .u8 56, .int .u8 57] 5 (4, 5))).alloc (by (try simp) <;> omega) (.cells #[.slice (some ⟨w.heap.size, 0, none⟩) 5 5, .slice (some ⟨w.heap.size + 1, 0, none⟩) 4 4] 22))
  generalize ((w.alloc (.cells #[.int .u8 49, .int .u8 50, .int .u8 51, .int .u8 52, .int .u8 53] 5 (5, 6))).alloc (.cells #[.int .u8 54, .int .u8 55, .int .u8 56, .int .u8 57] 5 (4, 5))).alloc (.cells #[.slice (some ⟨w.heap.size, 0, none⟩) 5 5, .slice (some ⟨w.heap.size + 1, 0, none⟩) 4 4] 22) = w3 at *
  clear kc kd
  have hs := hb3.size
  have HB := Lib.hid hb3
  clear hb3
  go_wp2_with fail
  refine (inet_calls _ _ [t3] _ (RBB.block1 (e := 22) (fr := (0, 0)) (A1 := some ⟨w3.heap.size, 0, none⟩) (n1 := 8) (c1 := 8) ?h1 t3 (RB.block (e := 5) (fr := (0, 0)) ?h2 t3 rfl) rfl (by omega)) ?h4 ?h5).mono ?_
  case h1 => exact heap_new _ _ (by simp)
  case h2 => exact heap_old (heap_new _ _ rfl)
  case h4 => simp
  case h5 => intro i hi; simp [t3] at hi ⊢; subst hi; simp
  rintro e w' ⟨rfl, rfl⟩; rw [inet_t]
  go_wp2
  go_ret
  exact ⟨rfl, (HB.out.alloc hs _).alloc (by simp; omega) _⟩

/-- What light counts. -/
def lightTo (ls : List (List UInt8)) : Nat → Nat
  | 0 => 0
  | k + 1 => lightTo ls k + min (ls.getD k []).length 65537
def lightB (ls : List (List UInt8)) : Bool := decide (ls.length ≤ 1000 ∧ lightTo ls ls.length ≤ 65536)

theorem lightTo_mono (ls : List (List UInt8)) (k : Nat) (h : k < ls.length) : lightTo ls k ≤ lightTo ls ls.length := by
  obtain ⟨d, hd⟩ : ∃ d, ls.length = k + d := ⟨ls.length - k, by omega⟩
  rw [hd]
  clear hd h
  induction d with
  | zero => exact Nat.le_refl _
  | succ d ih => exact Nat.le_trans ih (by rw [← Nat.add_assoc]; simp only [lightTo]; omega)

set_option maxHeartbeats 1000000 in
theorem light_calls (A : Option Addr) (c : Nat) (ls : List (List UInt8)) (w : World) (h : RBB w A ls) (hn : ls.length ≤ 140737488351232) (hl : ∀ i, i < ls.length → (ls.getD i []).length ≤ 140737488351232) :
    Calls Tryd.prog 18 #[.slice A ls.length c] w fun e w' => e = .returned (.bool (lightB ls)) ∧ w = w' := by
  have H := Lib.hid h
  clear h
  have HL := Lib.hid hl
  clear hl
  go_enter Tryd.func18, Tryd.ntmps18
  go_wp2
  go_loop [3, 4] (fun v i => ∃ k : Nat, k ≤ ls.length ∧ i = .int .i64 k ∧ v = .int .i64 (lightTo ls k : Nat) ∧ k ≤ 1001 ∧ lightTo ls k ≤ 131073) (fun _ i => ls.length - (intOf i).toNat)
  case atStart => exact ⟨0, Nat.zero_le _, rfl, rfl, by omega, by simp [lightTo]⟩
  case round =>
    obtain ⟨k, hk, rfl, rfl, hk1, hk2⟩ := hrel
    by_cases h1 : k < ls.length
    · have d1 : decide ((k : Int) < (ls.length : Int)) = true := by simpa using h1
      obtain ⟨b, o, A', c', rfl, hc, hr, hl'⟩ := H.out k h1
      have hm := lightTo_mono ls k h1
      by_cases h2 : k ≤ 1000
      · by_cases h3 : lightTo ls k ≤ 65536
        · have hs : Hid (lightTo ls (k + 1) = lightTo ls k + min (ls.getD k []).length 65537) := rfl
          have hlen := HL.out k h1
          have HM := Lib.hid hm
          clear hm hr
          generalize ls.getD k [] = p at *
          generalize lightTo ls k = q at *
          go_wp2
          have h4 : lightTo ls (k + 1) ≤ 131073 := by rw [hs.out]; omega
          refine ⟨⟨k + 1, by omega, by go_num, ?_, by omega, h4⟩, by simp [intOf]; omega⟩
          rw [hs.out]
          congr 1
          split <;> omega
        · have hf : lightB ls = false := decide_eq_false (by omega)
          have HF := Lib.hid hf
          clear hm hf
          go_wp2
          all_goals go_ret
          all_goals exact ⟨ret_bool (by have e := HF.out; first | (rw [e]; done) | (rw [e]; simp; done) | (rw [e]; simp; omega)), rfl⟩
      · have hf : lightB ls = false := decide_eq_false (by omega)
        have HF := Lib.hid hf
        clear hm hf
        go_wp2
        all_goals go_ret
        all_goals exact ⟨ret_bool (by have e := HF.out; first | (rw [e]; done) | (rw [e]; simp; done) | (rw [e]; simp; omega)), rfl⟩
    · obtain rfl : k = ls.length := by omega
      have hf : Hid (lightB ls = decide (ls.length ≤ 1000 ∧ lightTo ls ls.length ≤ 65536)) := rfl
      by_cases h2 : ls.length ≤ 1000
      · by_cases h3 : lightTo ls ls.length ≤ 65536
        · go_wp2
          all_goals go_ret
          all_goals exact ⟨ret_bool (by rw [hf.out]; simp [h2, h3]; omega), rfl⟩
        · go_wp2
          all_goals go_ret
          all_goals exact ⟨ret_bool (by rw [hf.out]; simp [h3]; omega), rfl⟩
      · go_wp2
        all_goals go_ret
        all_goals exact ⟨ret_bool (by rw [hf.out]; simp [h2]), rfl⟩

/-- The reference's sum with carries. -/
theorem tmod_65536 (n : Nat) : ((n : Int) % 65536) = ((n % 65536 : Nat) : Int) := by omega
def addTo (l : List Nat) : Nat → Nat
  | 0 => 0
  | k + 1 => addTo l k + l.getD k 0
theorem addTo_le (l : List Nat) (B k : Nat) (h : ∀ i, l.getD i 0 ≤ B) : addTo l k ≤ B * k := by
  induction k with
  | zero => simp [addTo]
  | succ k ih => have := h k; simp only [addTo, Nat.mul_succ]; omega
def RI (w : World) (A : Option Addr) (l : List Nat) : Prop :=
  ∀ i, i < l.length → ∃ b o, A = some ⟨b, o, none⟩ ∧ w.cell? ⟨b, o + i, none⟩ = some (.int .i64 (l.getD i 0 : Int))

set_option maxHeartbeats 1000000 in
theorem radd_calls (A : Option Addr) (c : Nat) (l : List Nat) (w : World) (h : RI w A l) (hn : l.length ≤ 70000000000000) (hl : ∀ i, l.getD i 0 ≤ 65535) :
    Calls Tryd.prog 31 #[.slice A l.length c] w fun e w' => e = .returned (.int .i64 (foldN (addTo l l.length) : Nat)) ∧ w = w' := by
  have H := Lib.hid h
  clear h
  have HL := Lib.hid hl
  clear hl
  go_enter Tryd.func31, Tryd.ntmps31
  go_wp2
  go_loop [3, 8] (fun v i => ∃ k : Nat, k ≤ l.length ∧ i = .int .i64 k ∧ v = .int .i64 (addTo l k : Nat)) (fun _ i => l.length - (intOf i).toNat)
  case atStart => exact ⟨0, Nat.zero_le _, rfl, rfl⟩
  case round =>
    obtain ⟨k, hk, rfl, rfl⟩ := hrel
    have hb := addTo_le l 65535 k HL.out
    by_cases h1 : k < l.length
    · obtain ⟨b, o, rfl, hc⟩ := H.out k h1
      have hs : Hid (addTo l (k + 1) = addTo l k + l.getD k 0) := rfl
      have hx := HL.out k
      generalize l.getD k 0 = x at *
      generalize addTo l k = q at *
      go_wp2
      go_round
      case rel => exact ⟨k + 1, by omega, by go_num, by rw [hs.out]; go_num⟩
      case measure => simp [intOf]; omega
    · obtain rfl : k = l.length := by omega
      obtain ⟨n, hN⟩ : ∃ n, foldN n = foldN (addTo l l.length) ∧ n = addTo l l.length := ⟨_, rfl, rfl⟩
      obtain ⟨hN, hN'⟩ := hN
      rw [← hN']
      rw [← hN'] at hb
      have HN' := Lib.hid hN'
      have HNN := Lib.hid hN
      clear hN hN'
      go_wp2
      go_loop [3] (fun v => ∃ m : Nat, v = .int .i64 m ∧ Hid (foldN m = foldN n) ∧ m ≤ 9223372036854775807) (fun v => (intOf v).toNat)
      case atStart => exact ⟨n, rfl, rfl, by omega⟩
      case round =>
        obtain ⟨m, rfl, hm, hb⟩ := hrel
        by_cases hlt : 65535 < m
        · go_wp2
          go_round
          case rel => exact ⟨m / 65536 + m % 65536, by go_num, (foldN_step m hlt).trans hm.out, by omega⟩
          case measure => simp [intOf]; omega
        · go_wp2
          go_ret
          exact ⟨ret_int (by rw [← HNN.out, ← hm.out, foldN_small m (by omega)]), rfl⟩

set_option maxHeartbeats 1000000 in
theorem rupdate_calls (s o n : Nat) (hs : s ≤ 65535) (ho : o ≤ 65535) (hn : n ≤ 65535) (w : World) :
    Calls Tryd.prog 17 #[.int .u16 (s : Int), .int .u16 (o : Int), .int .u16 (n : Int)] w fun e w' => e = .returned (.int .u16 (updN s o n : Nat)) ∧ Below w.heap.size w w' := by
  have hf := foldN_le (65535 - s + (65535 - o) + n)
  go_enter Tryd.func17, Tryd.ntmps17
  go_wp2_with fail
  refine (radd_calls _ _ [65535 - s, 65535 - o, n] _ ?h1 (by simp) ?h2).mono ?_
  case h1 =>
    intro i hi
    refine ⟨w.heap.size, 0, rfl, ?_⟩
    have hi' : i < 3 := by simpa using hi
    match i, hi' with
    | 0, _ => simp; omega
    | 1, _ => simp; omega
    | 2, _ => simp
  case h2 =>
    intro i
    match i with
    | 0 => simp
    | 1 => simp
    | 2 => simpa using hn
    | i + 3 => simp
  rintro e w' ⟨rfl, rfl⟩
  have e1 : addTo [65535 - s, 65535 - o, n] [65535 - s, 65535 - o, n].length = 65535 - s + (65535 - o) + n := by simp [addTo]
  rw [e1]
  clear e1
  go_wp2
  go_ret
  exact ⟨ret_int (by unfold updN; omega), ext_alloc _ _⟩
end Go.Proofs.YtnknkmpdkdpnaaaDoor
