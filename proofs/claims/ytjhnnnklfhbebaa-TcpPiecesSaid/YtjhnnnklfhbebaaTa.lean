/- tcp: the plain model of an endpoint. Numbers of what goes out are counted from the first one (iss), of what comes in from irs. seq: the walks. A rule for a region that draws its order, by facts: operation T may write into the block 'row', the last one into any; I0: what every step before the last keeps; FL: what stands behind the last. tcp: an endpoint in memory. tcp: cells of an endpoint read and written; window, made: the walks. -/
import Derived.Test.YtjhnnnklfhbebaaPkG
import Derived.Test.YtjhnnnklfhbebaaAnyZ
import Derived.Deep.QuietTactic
import Derived.BigQuiet
import Derived.Test.YtjhnnnklfhbebaaOwnR
import Derived.Test.YtjhnnnklfhbebaaPkO
namespace Go.Proofs.Ytjhnnnklfhbebaa
open Go.RowKit
set_option linter.unusedVariables false

def m32 (n : Nat) : Nat := n % 4294967296
/-- How far one number stands behind another. -/
def sd (a b : Nat) : Int := ((a : Int) - (b : Int) + 2147483648) % 4294967296 - 2147483648
/-- Has the packet the flag k? -/
def hasF (p : Pk) (k : Int) : Bool := decide (bits .and .i64 p.fl k ≠ 0)
structure TS where
  src : Int
  dst : Int
  sp : Int
  dp : Int
  og : Int
  iss : Nat
  una : Nat
  nxt : Nat
  top : Nat
  out : List UInt8
  wnd : Int
  shut : Bool
  over : Bool
  sent : Nat
  irs : Nat
  rcv : Nat
  inn : List UInt8
  early : List (Option UInt8)
  told : Bool
  fend : Nat
  fin : Bool
  got : Nat
  state : Nat
  timer : Nat
  tries : Nat
  idle : Nat
  pack : List Pk
namespace TS
def num (s : TS) (a : Nat) : Nat := m32 (s.iss + a)
def rnum (s : TS) (a : Nat) : Nat := m32 (s.irs + a)
def window (s : TS) : Nat := 1024 - s.inn.length
def mkp (s : TS) (fl : Nat) (at_ : Nat) (data : List UInt8) : Pk :=
  ⟨s.src, s.dst, s.sp, s.dp, at_, if fl / 2 % 2 = 1 then s.rnum s.rcv else 0, fl, s.window, 0, if fl % 2 = 1 then s.og else 0, data⟩
def emit (s : TS) (fl : Nat) (at_ : Nat) (data : List UInt8) : TS := { s with pack := s.pack ++ [s.mkp fl at_ data] }
def syn (s : TS) : TS := if s.state = 1 then s.emit 1 s.iss [] else s.emit 3 s.iss []
def ack (s : TS) : TS := s.emit 2 (s.num s.top) []
def refuse (s : TS) (p : Pk) : TS := if (p.refuse p.data.length).2 = true then { s with pack := s.pack ++ [(p.refuse p.data.length).1] } else s
def on (s : TS) (n : Nat) : TS := { s with nxt := s.nxt + n, top := max s.top (s.nxt + n) }
def off (s : TS) : Nat := s.nxt - s.una
/-- How many bytes may be sent next. -/
def may (s : TS) : Int := min 128 (min ((s.out.length : Int) - (s.off : Int)) (s.wnd - (s.off : Int)))
def send (s : TS) (n : Nat) : TS := (s.emit 2 (s.num s.nxt) ((s.out.drop s.off).take n)).on n
def pushL : Nat → TS → TS
  | 0, s => s
  | f + 1, s => if s.may ≤ 0 then s else pushL f (s.send s.may.toNat)
def pushF (s : TS) : TS := if s.shut = true ∧ s.over = false ∧ s.off = s.out.length then (s.emit 6 (s.num s.nxt) []).on 1 else s
def push (s : TS) : TS := if s.state = 3 then (pushL (s.out.length + 1) s).pushF else s
def back (s : TS) : TS := { s with nxt := s.una }
def again (s : TS) : TS := if s.wnd = 0 ∧ 0 < s.out.length then (s.back.emit 2 (s.num s.una) (s.out.take 1)).on 1 else s.back.push
def reset (s : TS) : TS := { s with state := 5, out := [], inn := [] }
def dead (s : TS) : Bool := decide (s.state = 0 ∨ s.state = 4 ∨ s.state = 5)
def abort (s : TS) : TS := if s.dead = true then s else (if s.state = 1 then s else s.emit 10 (s.num s.top) []).reset
def late (s : TS) : TS :=
  let s1 := { s with timer := 0, tries := s.tries + 1 }
  if 30 < s1.tries then s1.abort else if s1.state = 3 then s1.again else s1.syn
def tick (s : TS) : TS :=
  if s.dead = true then s
  else
    let s1 := { s with idle := s.idle + 1, timer := if s.nxt = s.una ∧ s.out.length = 0 then 0 else s.timer + 1 }
    if 128 ≤ s1.idle then s1.abort else if 4 ≤ s1.timer then s1.late else if s1.state = 3 ∧ s1.idle % 16 = 0 then s1.emit 2 (s1.num (s1.una - 1)) [] else s1
def opened (s : TS) : TS := { s with state := 3, una := 1, nxt := 1, timer := 0, tries := 0 }
def answered (s : TS) (p : Pk) : TS :=
  let a := hasF p 2
  let yes := a && decide (p.ack = s.num 1)
  if a = true ∧ yes = false then s.refuse p
  else if hasF p 8 = true then (if yes = true then s.reset else s)
  else if hasF p 1 = true ∧ yes = true then ({ s with irs := p.seq, rcv := 1, wnd := p.wn }.opened.ack).push
  else s
/-- What of a stretch lies within another one. -/
def clip (start : Nat) (n : Nat) (from_ : Nat) (size : Nat) : Nat × Nat :=
  if n = 0 ∨ size = 0 ∨ sd start from_ = -2147483648 then (0, 0)
  else if (n : Int) ≤ max 0 (sd from_ start) ∨ (size : Int) ≤ sd start from_ then (0, 0)
  else ((max 0 (sd from_ start)).toNat, (min ((n : Int) - max 0 (sd from_ start)) ((size : Int) - max 0 (sd start from_))).toNat)
def inN (x from_ : Nat) (size : Nat) : Bool := decide (0 < size ∧ (x + 4294967296 - from_) % 4294967296 < size)
def fits (s : TS) (p : Pk) : Bool :=
  let n := takesN p.fl p.data.length
  decide (p.seq = s.rnum s.rcv) || decide (0 < (clip p.seq n (s.rnum s.rcv) s.window).2) || (decide (n = 0) && inN p.seq (s.rnum s.rcv) (s.window + 3))
def credit (s : TS) (p : Pk) : Bool × TS :=
  if 0 < sd p.ack (s.num s.top) then (false, s)
  else if sd p.ack (s.num s.una) < 0 then (true, s)
  else if sd p.ack (s.num s.una) = 0 then (true, { s with wnd := p.wn, tries := 0 })
  else
    let n := (sd p.ack (s.num s.una)).toNat
    let d := min n s.out.length
    (true, { s with wnd := p.wn, tries := 0, over := s.over || decide (d < n), out := s.out.drop d, sent := s.sent + d, una := s.una + n, timer := 0, nxt := max s.nxt (s.una + n) })
def setL (e : List (Option UInt8)) (at_ : Nat) : List UInt8 → List (Option UInt8)
  | [] => e
  | x :: r => setL (e.set at_ (some x)) (at_ + 1) r
def keep (s : TS) (p : Pk) : TS :=
  let w := s.window
  let c := clip p.seq p.data.length (s.rnum s.rcv) w
  let s1 := { s with early := setL s.early (sd (m32 (p.seq + c.1)) (s.rnum s.rcv)).toNat ((p.data.drop c.1).take c.2) }
  let d := sd (m32 (p.seq + p.data.length)) (s.rnum s.rcv)
  if hasF p 4 = true ∧ s.told = false ∧ 0 ≤ d ∧ d ≤ w then { s1 with told := true, fend := s.rcv + d.toNat } else s1
/-- How many bytes are in order. -/
def lead (s : TS) : Nat → List (Option UInt8) → Nat
  | k, some _ :: r => if s.told = true ∧ s.rcv + k = s.fend then k else lead s (k + 1) r
  | k, _ => k
def fill (s : TS) : TS :=
  let n := s.lead 0 s.early
  let s1 := { s with inn := s.inn ++ (s.early.take n).map (·.getD 0), early := s.early.drop n ++ List.replicate n none, rcv := s.rcv + n }
  if s1.told = true ∧ s1.rcv = s1.fend then { s1 with fin := true, rcv := s1.rcv + 1 } else s1
def talk (s : TS) (p : Pk) : TS :=
  let s1 := if s.state = 2 then s.opened else s
  if s1.fits p = false then s1.ack
  else
    let c := s1.credit p
    if c.1 = false then s1.ack
    else
      let s2 := if c.2.fin = false then (c.2.keep p).fill else c.2
      let s3 := if 0 < takesN p.fl p.data.length then s2.ack else s2
      let s4 := s3.push
      if s4.fin = true ∧ s4.over = true then { s4 with state := 4 } else s4
def takes (s : TS) (p : Pk) : TS :=
  if hasF p 8 = true then (if s.state ≠ 4 ∧ inN p.seq (s.rnum s.rcv) (s.window + 3) = true then s.reset else s)
  else if hasF p 1 = true ∧ s.state = 2 ∧ p.seq = s.irs ∧ hasF p 2 = false then s.syn
  else if hasF p 1 = true then s.ack
  else if hasF p 2 = false then s
  else if s.state = 2 ∧ p.ack ≠ s.num 1 then s.refuse p
  else s.talk p
def take (s : TS) (p : Pk) : TS :=
  if s.state = 0 ∨ okP p = false then s
  else
    let s1 := { s with idle := 0 }
    if s.state = 5 then s1.refuse p else if s.state = 1 then s1.answered p else s1.takes p
def closed (s : TS) : Bool := s.shut || s.dead
def write (s : TS) (b : List UInt8) : Nat × TS :=
  if s.closed = true then (0, s)
  else
    let n := min b.length (1024 - s.out.length)
    (n, { s with out := s.out ++ b.take n }.push)
def room (s : TS) : Nat := if s.closed = true then 0 else 1024 - s.out.length
def readN (s : TS) (n : Int) : Nat := (max 0 (min n (s.inn.length : Int))).toNat
def read (s : TS) (n : Int) : List UInt8 × TS :=
  if s.state = 0 then ([], s)
  else
    let k := s.readN n
    let s1 := { s with inn := s.inn.drop k, got := s.got + k }
    (s.inn.take k, if s.state = 3 ∧ s.window < 128 ∧ 128 ≤ s1.window then s1.ack else s1)
def close (s : TS) : TS := if s.state ≠ 0 ∧ s.state ≠ 5 ∧ s.shut = false then { s with shut := true }.push else s
def outp (s : TS) : List Pk × TS := if s.state = 0 then ([], s) else (s.pack, { s with pack := [] })
def zero : TS := ⟨0, 0, 0, 0, 0, 0, 0, 0, 0, [], 0, false, false, 0, 0, 0, [], List.replicate 1024 none, false, 0, false, 0, 0, 0, 0, 0, []⟩
def start (s : TS) (iss : Nat) : TS := { s with iss := iss, una := 0, nxt := 1, top := 1 }
def dialP (src sp dst dp og : Int) : Pk := ⟨src, dst, sp, dp, 0, 0, 0, 0, 0, og, []⟩
def dial (src sp dst dp og : Int) (iss : Nat) : Option TS :=
  if okP (dialP src sp dst dp og) = false then none
  else some (({ zero with src := src, dst := dst, sp := sp, dp := dp, og := og, state := 1 }.start iss).syn)
def accept (p : Pk) (iss : Nat) : Option TS :=
  if okP p = false ∨ p.fl ≠ 1 then none
  else some ({ ({ zero with src := p.dst, dst := p.src, sp := p.dp, dp := p.sp, state := 2 }.start iss) with irs := p.seq, rcv := 1, wnd := p.wn }.syn)
end TS
end Go.Proofs.Ytjhnnnklfhbebaa
namespace Go.Proofs.Ytjhnnnklfhbebaa
open Go.RowKit
set_option linter.unusedVariables false
set_option linter.unusedSimpArgs false

theorem ret_two {k k2 : IntKind} {a b c d : Int} (h : a = b) (h2 : c = d) : Ending.returned (.tuple #[.int k a, .int k2 c]) = .returned (.tuple #[.int k b, .int k2 d]) := by rw [h, h2]
theorem sd_bd (a b : Nat) : -2147483648 ≤ sd a b ∧ sd a b ≤ 2147483647 := by unfold sd; omega
theorem sd_self (a : Nat) : sd a a = 0 := by unfold sd; omega
theorem m32_lt (n : Nat) : m32 n < 4294967296 := Nat.mod_lt _ (by decide)
theorem diff_calls (a b : Nat) (ha : a < 4294967296) (hb : b < 4294967296) (w : World) :
    Calls Try.prog 98 #[.int .u32 (a : Int), .int .u32 (b : Int)] w fun e w' => e = .returned (.int .i64 (sd a b)) ∧ w = w' := by
  go_enter Try.func98, Try.ntmps98
  go_wp2
  go_ret
  exact ⟨ret_int (by unfold sd wrap64 wrap32; omega), rfl⟩
theorem add_calls (a n : Nat) (ha : a < 4294967296) (hn : n < 4294967296) (w : World) :
    Calls Try.prog 108 #[.int .u32 (a : Int), .int .i64 (n : Int)] w fun e w' => e = .returned (.int .u32 (m32 (a + n) : Nat)) ∧ w = w' := by
  go_enter Try.func108, Try.ntmps108
  go_wp2
  go_ret
  exact ⟨ret_int (by unfold m32; omega), rfl⟩
theorem less_calls (a b : Nat) (ha : a < 4294967296) (hb : b < 4294967296) (w : World) :
    Calls Try.prog 111 #[.int .u32 (a : Int), .int .u32 (b : Int)] w fun e w' => e = .returned (.bool (decide (sd a b < 0))) ∧ w = w' := by
  go_enter Try.func111, Try.ntmps111
  go_wp2_with fail
  refine (diff_calls a b ha hb _).mono ?_
  rintro e w' ⟨rfl, rfl⟩
  go_wp2
  go_ret
  exact ⟨rfl, rfl⟩
theorem in_calls (x f n : Nat) (hx : x < 4294967296) (hf : f < 4294967296) (hn : n < 4294967296) (w : World) :
    Calls Try.prog 85 #[.int .u32 (x : Int), .int .u32 (f : Int), .int .i64 (n : Int)] w fun e w' => e = .returned (.bool (TS.inN x f n)) ∧ w = w' := by
  obtain ⟨B, hB⟩ : ∃ B, TS.inN x f n = B := ⟨_, rfl⟩
  rw [hB]
  have HB := Lib.hid hB
  clear hB
  by_cases h0 : 0 < n
  · obtain ⟨d, hd⟩ : ∃ d : Nat, (x + 4294967296 - f) % 4294967296 = d := ⟨_, rfl⟩
    have hdi : ((x : Int) - (f : Int)) % 4294967296 = (d : Int) := by omega
    have hd1 : d < 4294967296 := by omega
    have HD := Lib.hid hd
    clear hd
    go_enter Try.func85, Try.ntmps85
    go_wp2
    go_ret
    exact ⟨ret_bool (by rw [← HB.out]; unfold TS.inN; rw [HD.out]; simp [h0]), rfl⟩
  · go_enter Try.func85, Try.ntmps85
    go_wp2
    go_ret
    exact ⟨ret_bool (by rw [← HB.out]; unfold TS.inN; simp [h0]), rfl⟩
/-- The one of two numbers that stands further behind the first. -/
def mostN (x a : Nat) : Nat := if 0 < sd x a then x else a
theorem most_calls (a x g : Nat) (ha : a < 4294967296) (hx : x < 4294967296) (w : World) (hc : w.cell? ⟨g, 0, none⟩ = some (.int .u32 (x : Int))) :
    Calls Try.prog 109 #[.int .u32 (a : Int), .slice (some ⟨g, 0, none⟩) 1 1] w fun e w' => e = .returned (.int .u32 ((mostN x a : Nat) : Int)) ∧ w = w' := by
  have HS := Lib.hid (sd_self a)
  go_enter Try.func109, Try.ntmps109
  go_wp2
  go_loop [5, 11] (fun v i => (i = .int .i64 0 ∧ v = .int .u32 (a : Int)) ∨ (i = .int .i64 1 ∧ v = .int .u32 ((mostN x a : Nat) : Int))) (fun _ i => 1 - (intOf i).toNat)
  case atStart => exact .inl ⟨rfl, rfl⟩
  case round =>
    rcases hrel with ⟨rfl, rfl⟩ | ⟨rfl, rfl⟩
    · by_cases hp : 0 < sd x a
      · have hp' := hp
        have HP : Hid (mostN x a = x) := Lib.hid (if_pos hp)
        clear hp
        go_wp2_with fail
        refine (diff_calls x a hx ha _).mono ?_
        rintro e w' ⟨rfl, rfl⟩
        go_wp2_with fail
        refine (diff_calls a a ha ha _).mono ?_
        rintro e w' ⟨rfl, rfl⟩
        rw [HS.out]
        go_wp2
        go_round
        case rel => exact .inr ⟨rfl, by rw [HP.out]⟩
        case measure => simp [intOf]
      · have hp' : sd x a ≤ 0 := by omega
        have HP : Hid (mostN x a = a) := Lib.hid (if_neg hp)
        clear hp
        go_wp2_with fail
        refine (diff_calls x a hx ha _).mono ?_
        rintro e w' ⟨rfl, rfl⟩
        go_wp2_with fail
        refine (diff_calls a a ha ha _).mono ?_
        rintro e w' ⟨rfl, rfl⟩
        rw [HS.out]
        go_wp2
        go_round
        case rel => exact .inr ⟨rfl, by rw [HP.out]⟩
        case measure => simp [intOf]
    · obtain ⟨y, hy⟩ : ∃ y, mostN x a = y := ⟨_, rfl⟩
      rw [hy]
      have HY := Lib.hid hy
      clear hy
      go_wp2
      go_ret
      exact ⟨by rw [HY.out]; rfl, rfl⟩
set_option maxRecDepth 100000 in
set_option maxHeartbeats 1000000 in
theorem clip_calls (st n f size : Nat) (hst : st < 4294967296) (hf : f < 4294967296) (hn : n ≤ 100000) (hz : size ≤ 100000) (w : World) :
    Calls Try.prog 110 #[.agg #[.int .u32 (st : Int), .int .i64 (n : Int)], .int .u32 (f : Int), .int .i64 (size : Int)] w fun e w' => e = .returned (.tuple #[.int .i64 ((TS.clip st n f size).1 : Int), .int .i64 ((TS.clip st n f size).2 : Int)]) ∧ Below w.heap.size w w' := by
  obtain ⟨C, hC⟩ : ∃ C, TS.clip st n f size = C := ⟨_, rfl⟩
  rw [hC]
  have HC := Lib.hid hC
  clear hC
  have b1 := sd_bd f st
  have b2 := sd_bd st f
  by_cases h0 : n = 0
  · have HZ : Hid (C = (0, 0)) := Lib.hid (by rw [← HC.out]; unfold TS.clip; rw [if_pos (.inl h0)])
    subst h0
    go_enter Try.func110, Try.ntmps110
    go_wp2
    go_ret2
    exact ⟨by rw [HZ.out]; rfl, ext_alloc _ _⟩
  · by_cases h1 : size = 0
    · have HZ : Hid (C = (0, 0)) := Lib.hid (by rw [← HC.out]; unfold TS.clip; rw [if_pos (.inr (.inl h1))])
      subst h1
      go_enter Try.func110, Try.ntmps110
      go_wp2
      go_ret2
      exact ⟨by rw [HZ.out]; rfl, ext_alloc _ _⟩
    · by_cases h2 : sd st f = -2147483648
      · have HZ : Hid (C = (0, 0)) := Lib.hid (by rw [← HC.out]; unfold TS.clip; rw [if_pos (.inr (.inr h2))])
        have e2 : ((st : Int) - (f : Int)) % 4294967296 = 2147483648 := by unfold sd at h2; omega
        clear h2
        go_enter Try.func110, Try.ntmps110
        go_wp2
        go_ret2
        exact ⟨by rw [HZ.out]; rfl, ext_alloc _ _⟩
      · obtain ⟨d, hd⟩ : ∃ d : Nat, ((st : Int) - (f : Int)) % 4294967296 = (d : Int) := ⟨(((st : Int) - (f : Int)) % 4294967296).toNat, by omega⟩
        have e2 : ((d : Int) == 2147483648) = false := beq_eq_false_iff_ne.2 (by intro e; apply h2; unfold sd; omega)
        have HND : Hid (¬ (n = 0 ∨ size = 0 ∨ sd st f = -2147483648)) := Lib.hid (by rintro (h | h | h) <;> contradiction)
        clear h2
        obtain ⟨a, ha⟩ : ∃ a, sd f st = a := ⟨_, rfl⟩
        obtain ⟨b, hb⟩ : ∃ b, sd st f = b := ⟨_, rfl⟩
        have HDA := Lib.hid (diff_calls f st hf hst)
        have HDB := Lib.hid (diff_calls st f hst hf)
        rw [ha] at b1 HDA
        rw [hb] at b2 HDB
        have HCA : Hid (TS.clip st n f size = if (n : Int) ≤ max 0 a ∨ (size : Int) ≤ b then (0, 0) else ((max 0 a).toNat, (min ((n : Int) - max 0 a) ((size : Int) - max 0 b)).toNat)) := Lib.hid (by
          unfold TS.clip
          rw [if_neg HND.out, ha, hb])
        clear ha hb
        obtain ⟨m, hm⟩ : ∃ m : Nat, max 0 a = (m : Int) := ⟨(max 0 a).toNat, by omega⟩
        rw [hm] at HCA
        have hm1 : m ≤ 2147483648 := by omega
        by_cases h3 : n ≤ m
        · have HZ : Hid (C = (0, 0)) := Lib.hid (by rw [← HC.out, HCA.out, if_pos (.inl (by omega))])
          go_enter Try.func110, Try.ntmps110
          go_wp2_with fail
          refine (HDA.out _).mono ?_
          rintro e w' ⟨rfl, rfl⟩
          go_wp2
          go_ret2
          exact ⟨by rw [HZ.out]; rfl, ext_alloc _ _⟩
        · by_cases h4 : (size : Int) ≤ b
          · have HZ : Hid (C = (0, 0)) := Lib.hid (by rw [← HC.out, HCA.out, if_pos (.inr h4)])
            by_cases ha0 : 0 < a
            · have hm0 : 0 < m := by omega
              obtain rfl : a = (m : Int) := by omega
              go_enter Try.func110, Try.ntmps110
              go_wp2_with fail
              refine (HDA.out _).mono ?_
              rintro e w' ⟨rfl, rfl⟩
              go_wp2_with fail
              refine (HDB.out _).mono ?_
              rintro e w' ⟨rfl, rfl⟩
              go_wp2
              go_ret2
              exact ⟨by rw [HZ.out]; rfl, ext_alloc _ _⟩
            · obtain rfl : m = 0 := by omega
              go_enter Try.func110, Try.ntmps110
              go_wp2_with fail
              refine (HDA.out _).mono ?_
              rintro e w' ⟨rfl, rfl⟩
              go_wp2_with fail
              refine (HDB.out _).mono ?_
              rintro e w' ⟨rfl, rfl⟩
              go_wp2
              go_ret2
              exact ⟨by rw [HZ.out]; rfl, ext_alloc _ _⟩
          · obtain ⟨k, hk⟩ : ∃ k : Nat, max 0 b = (k : Int) := ⟨(max 0 b).toNat, by omega⟩
            obtain ⟨r, hr⟩ : ∃ r : Nat, min ((n : Int) - (m : Int)) ((size : Int) - (k : Int)) = (r : Int) := ⟨(min ((n : Int) - (m : Int)) ((size : Int) - (k : Int))).toNat, by omega⟩
            have HZ : Hid (C = (m, r)) := Lib.hid (by rw [← HC.out, HCA.out, if_neg (by omega), hk, hr]; simp)
            have hk1 : k ≤ size := by omega
            have w1 : IntKind.i64.wrap ((n : Int) - (m : Int)) = (n : Int) - (m : Int) := IntWalk.i64_in _ (by omega)
            have w2 : IntKind.i64.wrap ((size : Int) - (k : Int)) = (size : Int) - (k : Int) := IntWalk.i64_in _ (by omega)
            have w3 : IntKind.i64.wrap ((n : Int) - 0) = (n : Int) := by rw [IntWalk.i64_in _ (by omega)]; omega
            have w4 : IntKind.i64.wrap ((size : Int) - 0) = (size : Int) := by rw [IntWalk.i64_in _ (by omega)]; omega
            have HW1 := Lib.hid w1
            clear w1 w2 w3 w4 HCA HC
            rcases Int.lt_or_le 0 a with ha0 | ha0 <;> rcases Int.lt_or_le 0 b with hb0 | hb0 <;> rcases Int.lt_or_le ((n : Int) - (m : Int)) ((size : Int) - (k : Int)) with hmn | hmn
            all_goals
              first | ((have hm0 : 0 < m := by omega); (obtain rfl : a = (m : Int) := by omega)) | (obtain rfl : m = 0 := by omega)
              first | ((have hk0 : 0 < k := by omega); (obtain rfl : b = (k : Int) := by omega)) | (obtain rfl : k = 0 := by omega)
              have HR := Lib.hid hr
              clear hm hk hr
              go_enter Try.func110, Try.ntmps110
              go_wp2_with fail
              refine (HDA.out _).mono ?_
              rintro e w' ⟨rfl, rfl⟩
              go_wp2_with fail
              refine (HDB.out _).mono ?_
              rintro e w' ⟨rfl, rfl⟩
              go_upto_region 6 with fail
              go_quiet ((go_at_call 98; refine Calls.quiet_of_same ((HDB.out _).mono fun _ _ k => ⟨k.1, k.2.symm⟩)))
              go_wp2
            all_goals go_ret2
            all_goals exact ⟨ret_two (by first | (rw [HZ.out]; done) | (rw [HZ.out]; rfl)) (by rw [HZ.out]; have h := HR.out; show _ = ((r : Nat) : Int); omega), ext_drewN (ext_alloc _ _) _⟩
end Go.Proofs.Ytjhnnnklfhbebaa
namespace Go.Proofs.Ytjhnnnklfhbebaa
open Go.RowKit
set_option linter.unusedVariables false
section
variable {P : Program} {ops : Array Oper} {Q : Exit → Act → World → Prop}
def StepI (P : Program) (ops : Array Oper) (Q : Exit → Act → World → Prop) (B : List (List Nat)) (F : List (Value → World → Prop)) (st : (Nat → Value) → Act) (u0 : Nat → Value) (I0 : World → Prop) (S : Nat) (G0 : World → Prop) (row : Option Nat) (T L : Nat) (FL : (Nat → Value) → World → Prop) (i : Nat) (o : Oper) : Prop :=
  ∀ (u : Nat → Value) (w2 : World), I0 w2 → S ≤ w2.heap.size → (i = T → G0 w2) → (∀ j ∈ B.getD i [], factAt F j (u j) w2) → (∀ j, i ∈ B.getD j [] → u j = u0 j) → ∀ (J K : Act → World → Prop),
    (∀ v w3 a', w2.heap.size ≤ w3.heap.size → (i ≠ L → I0 w3 ∧ (i ≠ T → Below w2.heap.size w2 w3) ∧ (i = T → w2.grownBy w3 row) ∧ factAt F i v w3) → (i = L → FL u w3) → a' = st (setU u i v) → J a' w3) → (∀ a' w', StopF J a' w' → K a' w') → wpList P ops (Exit.then K Q) [o] (st u) w2
def StepsI (P : Program) (ops : Array Oper) (Q : Exit → Act → World → Prop) (B : List (List Nat)) (F : List (Value → World → Prop)) (st : (Nat → Value) → Act) (u0 : Nat → Value) (I0 : World → Prop) (S : Nat) (G0 : World → Prop) (row : Option Nat) (T L : Nat) (FL : (Nat → Value) → World → Prop) : List Oper → Nat → Prop
  | [], _ => True
  | o :: r, i => StepI P ops Q B F st u0 I0 S G0 row T L FL i o ∧ StepsI P ops Q B F st u0 I0 S G0 row T L FL r (i + 1)
def InvI (B : List (List Nat)) (F : List (Value → World → Prop)) (st : (Nat → Value) → Act) (u0 : Nat → Value) (I0 : World → Prop) (S : Nat) (G0 : World → Prop) (T L : Nat) (FL : (Nat → Value) → World → Prop) (b : Nat → Bool) (a : Act) (w : World) : Prop :=
  ∃ u : Nat → Value, a = st u ∧ (∀ j, b j = false → u j = u0 j) ∧ (∀ j k, k ∈ B.getD j [] → b j = true → b k = true) ∧ S ≤ w.heap.size ∧
    (b L = false → I0 w ∧ (b T = false → G0 w) ∧ ∀ j, b j = true → factAt F j (u j) w) ∧ (b L = true → FL u w)
/-- Each number below L is ahead of L, and L is the last. -/
def orderI (B : List (List Nat)) (T L n : Nat) : Bool :=
  ((List.range L).all fun i => (B.getD L []).contains i) && decide (T < L) && decide (n = L + 1)
theorem steps_of_I {B : List (List Nat)} {F : List (Value → World → Prop)} {st : (Nat → Value) → Act} {u0 : Nat → Value} {I0 : World → Prop} {S : Nat} {G0 : World → Prop} {row : Option Nat} {T L n : Nat} {FL : (Nat → Value) → World → Prop} (hF : MonoAll F) (hR : MonoRows row T L F 0)
    (hG : ∀ w1 w2, Below w1.heap.size w1 w2 → G0 w1 → G0 w2) (hFL : ∀ u v w, FL u w → FL (setU u L v) w) (hO : orderI B T L n = true) (hFn : F.length ≤ L) : ∀ {l : List Oper} {k : Nat}, k + l.length ≤ n → StepsI P ops Q B F st u0 I0 S G0 row T L FL l k → StepsOf P ops Q B (InvI B F st u0 I0 S G0 T L FL) l k
  | [], _, _, _ => trivial
  | _ :: r, i, hn, hs => ⟨fun b a w2 hI hbi hB J K hJ hK => by
      obtain ⟨u, rfl, hz, hc, hS, hpre, hpost⟩ := hI
      simp only [orderI, Bool.and_eq_true, List.all_eq_true, List.mem_range, List.contains_eq_mem, decide_eq_true_eq] at hO
      obtain ⟨⟨o2, o3⟩, o4⟩ := hO
      have hiL : i ≤ L := by simp at hn; omega
      have hbL : b L = false := by
        cases hb' : b L with
        | false => rfl
        | true =>
          rcases Nat.lt_or_eq_of_le hiL with h | h
          · have := hc L i (o2 i h) hb'; rw [hbi] at this; cases this
          · rw [← h, hbi] at hb'; cases hb'
      obtain ⟨hI0, hg, hf⟩ := hpre hbL
      refine hs.1 u w2 hI0 hS (fun h => hg (h ▸ hbi)) (fun j hj => hf j (hB j hj)) (fun j hj => hz j (by
        cases hbj : b j with
        | false => rfl
        | true => rw [hc j i hj hbj] at hbi; cases hbi)) (fun a' w' => Stop J b i a' w') K ?_ hK
      rintro v w3 _ hz3 hn1 hn2 rfl
      refine hJ _ _ _ ⟨setU u i v, rfl, ?_, ?_, Nat.le_trans hS hz3, ?_, ?_⟩
      · intro j hj
        by_cases h : j = i
        · rw [h, upd_self] at hj; cases hj
        · rw [upd_ne h] at hj
          rw [setU_ne h]
          exact hz j hj
      · intro j k hk hj
        by_cases hki : k = i
        · rw [hki, upd_self]
        · rw [upd_ne hki]
          by_cases hji : j = i
          · exact hB k (hji ▸ hk)
          · rw [upd_ne hji] at hj
            exact hc j k hk hj
      · intro hL
        have hLi : i ≠ L := fun h => by rw [h, upd_self] at hL; cases hL
        obtain ⟨h1, h2, h3, h4⟩ := hn1 hLi
        refine ⟨h1, fun hT => ?_, fun j hj => ?_⟩
        · have hTi : T ≠ i := fun h => by rw [h, upd_self] at hT; cases hT
          rw [upd_ne hTi] at hT
          exact hG _ _ (h2 (fun e => hTi e.symm)) (hg hT)
        · by_cases h : j = i
          · rw [h, setU_self]
            exact h4
          · rw [upd_ne h] at hj
            rw [setU_ne h]
            by_cases hjL : j < L
            · by_cases hTi : i = T
              · exact MonoRows.at hR j (by omega) (by omega) _ _ _ (h3 hTi) (hf j hj)
              · exact MonoAll.at hF j _ _ _ (h2 hTi) (hf j hj)
            · unfold factAt
              rw [List.getD_eq_getElem?_getD, List.getElem?_eq_none (by omega)]
              trivial
      · intro hL
        have hLi : i = L := by
          rcases Nat.lt_or_eq_of_le hiL with h | h
          · rw [upd_ne (by omega), hbL] at hL; cases hL
          · exact h
        subst hLi
        exact hFL _ _ _ (hn2 rfl), steps_of_I hF hR hG hFL hO hFn (by simp at hn; omega) hs.2⟩
/-- THE RULE. -/
theorem wp_region_fin {id : Nat} {l : List Oper} {a : Act} {w : World} (B : List (List Nat)) (F : List (Value → World → Prop)) (st : (Nat → Value) → Act) (I0 : World → Prop) (G0 : World → Prop) (row : Option Nat) (T L : Nat) (FL : (Nat → Value) → World → Prop) (u0 : Nat → Value) (hm : P.follows .mixedOrders = true)
    (hk : backB l.toArray = true) (hB : aheadB l.toArray B = true) (ha : a = st u0) (hO : orderI B T L l.length = true) (hFn : F.length ≤ L) (hF : MonoAll F) (hR : MonoRows row T L F 0)
    (hG : ∀ w1 w2, Below w1.heap.size w1 w2 → G0 w1 → G0 w2) (hFL : ∀ u v w, FL u w → FL (setU u L v) w) (hb0 : I0 w.drew) (hg0 : G0 w)
    (hs : StepsI P l.toArray Q B F st u0 I0 w.heap.size G0 row T L FL l 0) (hend : ∀ u w2, w.heap.size ≤ w2.heap.size → FL u w2 → Q .normal (st u) w2) : (Code.region id l.toArray true).wp P Q a w := by
  subst ha
  have hL : L < l.length := by
    simp only [orderI, Bool.and_eq_true, decide_eq_true_eq] at hO
    omega
  refine wp_region_rel B _ hm hk hB ⟨u0, rfl, (fun _ _ => rfl), (fun _ _ _ h => by cases h), Nat.le_refl _, (fun _ => ⟨hb0, fun _ => hG _ _ (Below.refl _ _).drew hg0, fun _ h => by cases h⟩), (fun h => by cases h)⟩ (steps_of_I hF hR hG hFL hO hFn (by simp) hs) ?_
  rintro b a w2 hall ⟨u, rfl, _, _, hS, _, hf⟩
  exact hend u w2 hS (hf (hall L hL))
end
end Go.Proofs.Ytjhnnnklfhbebaa
namespace Go.Proofs.Ytjhnnnklfhbebaa
open Go.RowKit
set_option linter.unusedVariables false

/-! ### its cells -/
namespace TS
def hd (s : TS) (vo vi : Value) : List Value :=
  [.int .i64 s.src, .int .i64 s.dst, .int .i64 s.sp, .int .i64 s.dp, .int .i64 s.og, .int .u32 (s.iss : Int), .int .u32 (s.num s.una : Int), .int .u32 (s.num s.nxt : Int), .int .u32 (s.num s.top : Int), vo, .int .i64 s.wnd, .bool s.shut, .bool s.over, .int .i64 (s.sent : Int),
   .int .u32 (s.irs : Int), .int .u32 (s.rnum s.rcv : Int), vi]
def tl (s : TS) (vp : Value) (fe : Nat) : List Value :=
  [.bool s.told, .int .u32 (fe : Int), .bool s.fin, .int .i64 (s.got : Int), .int .i64 (s.state : Int), .int .i64 (s.timer : Int), .int .i64 (s.tries : Int), .int .i64 (s.idle : Int), vp]
def cells (s : TS) (vo vi vp : Value) (fe : Nat) (eh : List Value) : List Value := s.hd vo vi ++ (eh ++ s.tl vp fe)
end TS
theorem get_tl {h : List Value} {eh t : List Value} (hh : h.length = 17) (he : eh.length = 2048) (j : Nat) : (h ++ (eh ++ t))[2065 + j]? = t[j]? := by
  rw [List.getElem?_append_right (by omega), List.getElem?_append_right (by omega), hh, he, show 2065 + j - 17 - 2048 = j by omega]
theorem get_eh {h : List Value} {eh t : List Value} (hh : h.length = 17) (he : eh.length = 2048) (j : Nat) (hj : j < 2048) : (h ++ (eh ++ t))[17 + j]? = eh[j]? := by
  rw [List.getElem?_append_right (by omega), List.getElem?_append_left (by omega), hh, show 17 + j - 17 = j by omega]
theorem set_tl {h : List Value} {eh t : List Value} (hh : h.length = 17) (he : eh.length = 2048) (j : Nat) (v : Value) : (h ++ (eh ++ t)).set (2065 + j) v = h ++ (eh ++ t.set j v) := by
  rw [List.set_append_right _ _ (by omega), List.set_append_right _ _ (by omega), hh, he, show 2065 + j - 17 - 2048 = j by omega]
theorem set_eh {h : List Value} {eh t : List Value} (hh : h.length = 17) (he : eh.length = 2048) (j : Nat) (hj : j < 2048) (v : Value) : (h ++ (eh ++ t)).set (17 + j) v = h ++ (eh.set j v ++ t) := by
  rw [List.set_append_right _ _ (by omega), List.set_append_left _ _ (by omega), hh, show 17 + j - 17 = j by omega]
theorem set_hd {h : List Value} {r : List Value} (j : Nat) (hj : j < h.length) (v : Value) : (h ++ r).set j v = h.set j v ++ r := List.set_append_left _ _ hj

/-- The bytes that came early, and which of them did. -/
def EhIs (early : List (Option UInt8)) (eh : List Value) : Prop :=
  eh.length = 2048 ∧ ∀ i, i < 1024 → ∃ x : UInt8, eh[i]? = some (vb x) ∧ eh[1024 + i]? = some (.bool (early.getD i none).isSome) ∧ ∀ y, early.getD i none = some y → x = y
/-- A slice of bytes that stands in no block of N. -/
def SlN (N : Nat → Prop) (w : World) (v : Value) (l : List UInt8) : Prop :=
  ∃ A c, v = .slice A l.length c ∧ l.length ≤ c ∧ c ≤ maxLen ∧ RB w A l ∧ (0 < l.length → ∀ b o, A = some ⟨b, o, none⟩ → ¬ N b)
/-- Packets as cells. -/
def PkRow (N : Nat → Prop) (w : World) : List Pk → List Value → Prop
  | [], xs => xs = []
  | p :: r, xs => ∃ A c ys, xs = p.cs A p.data.length c ++ ys ∧ SlN N w (.slice A p.data.length c) p.data ∧ p.seq < 4294967296 ∧ p.ack < 4294967296 ∧ PkRow N w r ys
def PackIs (N : Nat → Prop) (w : World) (vp : Value) (ps : List Pk) : Prop := ∃ xs, w.ownsRow 0 32 11 vp ps.length xs ∧ PkRow N w ps xs
/-- The blocks in which none of its bytes stand. -/
def NN (N : Nat → Prop) (k : Nat) (vp : Value) (b : Nat) : Prop := N b ∨ b = k ∨ vp.ownBlock = some b
def ConnIs (N : Nat → Prop) (w : World) (k : Nat) (s : TS) (vp : Value) : Prop :=
  ∃ vo vi fe eh, BK w k 71 (s.cells vo vi vp fe eh) ∧ EhIs s.early eh ∧ fe < 4294967296 ∧ (s.told = true → fe = s.rnum s.fend) ∧
    SlN (NN N k vp) w vo s.out ∧ SlN (NN N k vp) w vi s.inn ∧ PackIs (NN N k vp) w vp s.pack ∧ ¬ N k ∧ (∀ b, vp.ownBlock = some b → ¬ N b ∧ b ≠ k)

section
variable {N : Nat → Prop} {w w' : World}
theorem SlN.nil (N : Nat → Prop) (w : World) : SlN N w (.slice none 0 0) [] := ⟨none, 0, rfl, Nat.le_refl _, Nat.zero_le _, RB.nil _ _, fun h => absurd h (by simp)⟩
theorem SlN.grown {v : Value} {l : List UInt8} {g : Nat} (h : SlN N w v l) (e : w.grownBy w' (some g)) (hg : N g) : SlN N w' v l := by
  obtain ⟨A, c, e1, h1, h2, h3, h4⟩ := h
  exact ⟨A, c, e1, h1, h2, h3.grown e fun h0 b o eb hb => h4 h0 b o eb (hb ▸ hg), h4⟩
theorem SlN.ext {v : Value} {l : List UInt8} (h : SlN N w v l) (e : Below w.heap.size w w') : SlN N w' v l := by
  obtain ⟨A, c, e1, h1, h2, h3, h4⟩ := h
  exact ⟨A, c, e1, h1, h2, h3.ext e, h4⟩
/-- Other blocks, of which none is new to it. -/
theorem SlN.weaken {N' : Nat → Prop} {v : Value} {l : List UInt8} (h : SlN N w v l) (hN : ∀ b, b < w.heap.size → N' b → N b) : SlN N' w v l := by
  obtain ⟨A, c, e1, h1, h2, h3, h4⟩ := h
  refine ⟨A, c, e1, h1, h2, h3, fun h0 b o eb hb => h4 h0 b o eb (hN b ?_ hb)⟩
  obtain ⟨b', o', e', hc⟩ := h3 0 h0
  rw [eb] at e'
  injection e' with e'
  injection e' with e1 e2
  subst e1
  exact World.block_lt_of_cell? w _ hc
theorem SlN.of_own {base : Nat} {v : Value} {l : List UInt8} (h : OwnB base 5 w v l) (hN : ∀ b, N b → b < base) : SlN N w v l := by
  obtain ⟨A, c, rfl, h1, h2, h3⟩ := h.form
  refine ⟨A, c, rfl, h2, h3, h1, fun h0 b o eb hb => ?_⟩
  obtain ⟨g, c1, ev, hg, _⟩ := h.block h0
  injection ev with ea eb2 ec
  rw [eb] at ea
  injection ea with ea
  injection ea with ea _
  have := hN b hb
  omega
theorem PkRow.grown {g : Nat} (e : w.grownBy w' (some g)) (hg : N g) : ∀ {ps : List Pk} {xs : List Value}, PkRow N w ps xs → PkRow N w' ps xs
  | [], _, h => h
  | _ :: _, _, ⟨A, c, ys, e1, h1, h2, h3, h4⟩ => ⟨A, c, ys, e1, h1.grown e hg, h2, h3, PkRow.grown e hg h4⟩
theorem PkRow.ext (e : Below w.heap.size w w') : ∀ {ps : List Pk} {xs : List Value}, PkRow N w ps xs → PkRow N w' ps xs
  | [], _, h => h
  | _ :: _, _, ⟨A, c, ys, e1, h1, h2, h3, h4⟩ => ⟨A, c, ys, e1, h1.ext e, h2, h3, PkRow.ext e h4⟩
theorem PkRow.weaken {N' : Nat → Prop} (hN : ∀ b, b < w.heap.size → N' b → N b) : ∀ {ps : List Pk} {xs : List Value}, PkRow N w ps xs → PkRow N' w ps xs
  | [], _, h => h
  | _ :: _, _, ⟨A, c, ys, e1, h1, h2, h3, h4⟩ => ⟨A, c, ys, e1, h1.weaken hN, h2, h3, PkRow.weaken hN h4⟩
theorem PkRow.snoc {p : Pk} {A : Option Addr} {c : Nat} (hp : SlN N w (.slice A p.data.length c) p.data) (h1 : p.seq < 4294967296) (h2 : p.ack < 4294967296) : ∀ {ps : List Pk} {xs : List Value}, PkRow N w ps xs → PkRow N w (ps ++ [p]) (xs ++ p.cs A p.data.length c)
  | [], _, h => by
    cases h
    exact ⟨A, c, [], by simp, hp, h1, h2, rfl⟩
  | _ :: _, _, ⟨A', c', ys, e1, k1, k2, k3, k4⟩ => ⟨A', c', ys ++ p.cs A p.data.length c, by rw [e1, List.append_assoc], k1, k2, k3, PkRow.snoc hp h1 h2 k4⟩
theorem PkRow.length : ∀ {ps : List Pk} {xs : List Value}, PkRow N w ps xs → xs.length = ps.length * 11
  | [], _, h => by cases h; rfl
  | p :: r, _, ⟨A, c, ys, e1, _, _, _, h4⟩ => by
    rw [e1, List.length_append, PkRow.length h4, List.length_cons]
    simp [Pk.cs]
    omega
theorem PackIs.grown {vp : Value} {ps : List Pk} {g : Nat} (h : PackIs N w vp ps) (e : w.grownBy w' (some g)) (hg : N g) (hv : vp.ownBlock ≠ some g) : PackIs N w' vp ps := by
  obtain ⟨xs, h1, h2⟩ := h
  exact ⟨xs, h1.kept e (.inr hv), h2.grown e hg⟩
theorem PackIs.ext {vp : Value} {ps : List Pk} (h : PackIs N w vp ps) (e : Below w.heap.size w w') : PackIs N w' vp ps := by
  obtain ⟨xs, h1, h2⟩ := h
  exact ⟨xs, h1.kept (row := none) (grown_of_below e none) (by cases hb : vp.ownBlock <;> simp), h2.ext e⟩
theorem PackIs.weaken {N' : Nat → Prop} {vp : Value} {ps : List Pk} (h : PackIs N w vp ps) (hN : ∀ b, b < w.heap.size → N' b → N b) : PackIs N' w vp ps := by
  obtain ⟨xs, h1, h2⟩ := h
  exact ⟨xs, h1, h2.weaken hN⟩
end

/-! ### what a call leaves -/
/-- Nothing that was there is another, but the endpoint itself and the row of its packets. -/
structure Chg (k : Nat) (vp : Value) (w w' : World) : Prop where
  os : w'.os = w.os
  tape : w'.tape = w.tape
  output : w'.output = w.output
  size : w.heap.size ≤ w'.heap.size
  block : ∀ i, i < w.heap.size → i ≠ k → vp.ownBlock ≠ some i → w'.heap[i]? = w.heap[i]?
/-- The row of its packets is the one that it was, or a new one. -/
def After (w : World) (vp vp' : Value) : Prop := ∀ b, vp'.ownBlock = some b → vp.ownBlock = some b ∨ w.heap.size ≤ b
theorem Chg.refl (k : Nat) (vp : Value) (w : World) : Chg k vp w w := ⟨rfl, rfl, rfl, Nat.le_refl _, fun _ _ _ _ => rfl⟩
theorem Chg.trans {k : Nat} {vp vp1 : Value} {w w1 w2 : World} (h : Chg k vp w w1) (h1 : Chg k vp1 w1 w2) (a : After w vp vp1) : Chg k vp w w2 :=
  ⟨h1.os.trans h.os, h1.tape.trans h.tape, h1.output.trans h.output, Nat.le_trans h.size h1.size, fun i hi hk hv => (h1.block i (Nat.lt_of_lt_of_le hi h.size) hk (fun e => (a i e).elim hv (fun e2 => by omega))).trans (h.block i hi hk hv)⟩
theorem Chg.below {k : Nat} {vp : Value} {w w' : World} (h : Below w.heap.size w w') : Chg k vp w w' := ⟨h.os, h.tape, h.output, h.size, fun i hi _ _ => h.block i hi⟩
theorem Chg.grown {k : Nat} {vp : Value} {w w' : World} {g : Nat} (h : w.grownBy w' (some g)) (hg : g = k ∨ vp.ownBlock = some g) : Chg k vp w w' :=
  ⟨h.os, h.tape, h.output, h.size, fun i hi hk hv => h.block i hi (fun e => by
    have e := Option.some.inj e
    subst e
    exact hg.elim hk hv)⟩
theorem Chg.drew {k : Nat} {vp : Value} {w w' : World} (h : Chg k vp w w') : Chg k vp w w'.drew := ⟨h.os, h.tape, h.output, h.size, h.block⟩
theorem After.refl (w : World) (vp : Value) : After w vp vp := fun b h => .inl h
theorem After.trans {w w1 : World} {vp vp1 vp2 : Value} (h : After w vp vp1) (h1 : After w1 vp1 vp2) (hs : w.heap.size ≤ w1.heap.size) : After w vp vp2 := fun b hb => (h1 b hb).elim (h b) (fun e => .inr (Nat.le_trans hs e))
theorem After.none (w : World) (vp : Value) : After w vp (.slice none 0 0) := fun b h => by cases h
/-- What a method of an endpoint leaves. -/
def Did (N : Nat → Prop) (w : World) (k : Nat) (vp : Value) (s : TS) (v : Value) (e : Ending) (w' : World) : Prop :=
  ∃ vp', e = .returned v ∧ ConnIs N w' k s vp' ∧ Chg k vp w w' ∧ After w vp vp'
theorem RB.chg {k : Nat} {vp : Value} {w w' : World} {A : Option Addr} {l : List UInt8} (h : RB w A l) (c : Chg k vp w w') (hk : 0 < l.length → ∀ b o, A = some ⟨b, o, none⟩ → b ≠ k ∧ vp.ownBlock ≠ some b) : RB w' A l := fun i hi => by
  obtain ⟨b, o, rfl, hc⟩ := h i hi
  refine ⟨b, o, rfl, ?_⟩
  have hlt := World.block_lt_of_cell? w _ hc
  obtain ⟨h1, h2⟩ := hk (by omega) b o rfl
  rw [← hc]
  unfold World.cell?
  rw [c.block b hlt h1 h2]
section
variable {N : Nat → Prop} {w w' : World} {k : Nat} {s : TS} {vp : Value}
theorem ConnIs.ext (h : ConnIs N w k s vp) (e : Below w.heap.size w w') : ConnIs N w' k s vp := by
  obtain ⟨vo, vi, fe, eh, h1, h2, h3, h4, h5, h6, h7, h8, h9⟩ := h
  exact ⟨vo, vi, fe, eh, h1.ext e, h2, h3, h4, h5.ext e, h6.ext e, h7.ext e, h8, h9⟩
/-- A write of somebody else's into a block of N. -/
theorem ConnIs.flip {g : Nat} (h : ConnIs N w k s vp) (e : w.grownBy w' (some g)) (hg : N g) : ConnIs N w' k s vp := by
  obtain ⟨vo, vi, fe, eh, h1, h2, h3, h4, h5, h6, h7, h8, h9⟩ := h
  have hk : k ≠ g := fun e => h8 (e ▸ hg)
  have hv : vp.ownBlock ≠ some g := fun e => (h9 g e).1 hg
  exact ⟨vo, vi, fe, eh, h1.same (e.block k h1.lt (fun e => hk (Option.some.inj e))), h2, h3, h4, h5.grown e (.inl hg), h6.grown e (.inl hg), h7.grown e (.inl hg) hv, h8, h9⟩
theorem ConnIs.lt (h : ConnIs N w k s vp) : k < w.heap.size ∧ ∀ b, vp.ownBlock = some b → b < w.heap.size := by
  obtain ⟨vo, vi, fe, eh, h1, h2, h3, h4, h5, h6, ⟨xs, h7, _⟩, h8, h9⟩ := h
  exact ⟨h1.lt, fun b hb => (h7.lt b hb).2⟩
theorem ConnIs.weaken {N' : Nat → Prop} (h : ConnIs N w k s vp) (hN : ∀ b, b < w.heap.size → N' b → N b) : ConnIs N' w k s vp := by
  have hlt := h.lt
  obtain ⟨vo, vi, fe, eh, h1, h2, h3, h4, h5, h6, h7, h8, h9⟩ := h
  have hh : ∀ b, b < w.heap.size → NN N' k vp b → NN N k vp b := fun b hb hn => hn.imp (hN b hb) id
  exact ⟨vo, vi, fe, eh, h1, h2, h3, h4, h5.weaken hh, h6.weaken hh, h7.weaken hh, fun e => h8 (hN k hlt.1 e), fun b hb => ⟨fun e => (h9 b hb).1 (hN b (hlt.2 b hb) e), (h9 b hb).2⟩⟩
end
end Go.Proofs.Ytjhnnnklfhbebaa
namespace Go.Proofs.Ytjhnnnklfhbebaa
open Go.RowKit
set_option linter.unusedVariables false
set_option linter.unusedSimpArgs false

section
variable {N : Nat → Prop} {w w' : World} {k : Nat} {s s' : TS} {vp : Value}
theorem TS.hd_len (s : TS) (vo vi : Value) : (s.hd vo vi).length = 17 := rfl
theorem ConnIs.cellH (h : ConnIs N w k s vp) (j : Nat) (hj : j < 17) {v : Value} (hv : ∀ vo vi, (s.hd vo vi)[j]? = some v) : w.cell? ⟨k, j, none⟩ = some v := by
  obtain ⟨vo, vi, fe, eh, h1, _⟩ := h
  refine h1.cell ?_
  unfold TS.cells
  rw [List.getElem?_append_left (by rw [TS.hd_len]; exact hj)]
  exact hv vo vi
theorem ConnIs.cellT (h : ConnIs N w k s vp) (j : Nat) {v : Value} (hv : ∀ vp fe, (s.tl vp fe)[j]? = some v) (i : Nat) (hi : i = 2065 + j) : w.cell? ⟨k, i, none⟩ = some v := by
  subst hi
  obtain ⟨vo, vi, fe, eh, h1, h2, _⟩ := h
  exact h1.cell ((get_tl (TS.hd_len _ _ _) h2.1 j).trans (hv vp fe))
theorem ConnIs.cellP (h : ConnIs N w k s vp) : w.cell? ⟨k, 2073, none⟩ = some vp := by
  obtain ⟨vo, vi, fe, eh, h1, h2, _⟩ := h
  exact h1.cell ((get_tl (TS.hd_len _ _ _) h2.1 8).trans rfl)
theorem ConnIs.cellO (h : ConnIs N w k s vp) : ∃ A c, w.cell? ⟨k, 9, none⟩ = some (.slice A s.out.length c) ∧ s.out.length ≤ c ∧ c ≤ maxLen ∧ RB w A s.out ∧ (0 < s.out.length → ∀ b o, A = some ⟨b, o, none⟩ → ¬ NN N k vp b) := by
  obtain ⟨vo, vi, fe, eh, h1, h2, h3, h4, ⟨A, c, rfl, a1, a2, a3, a4⟩, h6, h7, h8, h9⟩ := h
  exact ⟨A, c, h1.cell rfl, a1, a2, a3, a4⟩
theorem ConnIs.cellI (h : ConnIs N w k s vp) : ∃ A c, w.cell? ⟨k, 16, none⟩ = some (.slice A s.inn.length c) ∧ s.inn.length ≤ c ∧ c ≤ maxLen ∧ RB w A s.inn ∧ (0 < s.inn.length → ∀ b o, A = some ⟨b, o, none⟩ → ¬ NN N k vp b) := by
  obtain ⟨vo, vi, fe, eh, h1, h2, h3, h4, h5, ⟨A, c, rfl, a1, a2, a3, a4⟩, h7, h8, h9⟩ := h
  exact ⟨A, c, h1.cell rfl, a1, a2, a3, a4⟩
theorem ConnIs.frozen (h : ConnIs N w k s vp) (i : Nat) : w.frozen? ⟨k, i, none⟩ = false := by
  obtain ⟨vo, vi, fe, eh, h1, _⟩ := h
  exact h1.frozen i
/-- A field ahead of the arrays is another. -/
theorem ConnIs.setH (h : ConnIs N w k s vp) (s' : TS) (j : Nat) (hj : j < 17) (v : Value) (hh : ∀ vo vi, s'.hd vo vi = (s.hd vo vi).set j v) (ht : ∀ vp fe, s'.tl vp fe = s.tl vp fe)
    (he : s'.early = s.early) (ho : s'.out = s.out) (hi : s'.inn = s.inn) (hp : s'.pack = s.pack) (hf : s'.told = true → s.told = true ∧ s'.rnum s'.fend = s.rnum s.fend) : ConnIs N (w.setCell ⟨k, j, none⟩ v) k s' vp := by
  obtain ⟨vo, vi, fe, eh, h1, h2, h3, h4, h5, h6, h7, h8, h9⟩ := h
  have hg := grown_setCell w k j v
  refine ⟨vo, vi, fe, eh, ?_, he ▸ h2, h3, fun e => (h4 (hf e).1).trans (hf e).2.symm, ho ▸ h5.grown hg (.inr (.inl rfl)), hi ▸ h6.grown hg (.inr (.inl rfl)), hp ▸ h7.grown hg (.inr (.inl rfl)) (fun e => (h9 k e).2 rfl), h8, h9⟩
  have := h1.set j v
  unfold TS.cells at this ⊢
  rw [set_hd j (by rw [TS.hd_len]; exact hj), ← hh, ← ht vp fe] at this
  exact this
/-- A field behind the arrays is another (not where the end stands, nor the packets). -/
theorem ConnIs.setT (h : ConnIs N w k s vp) (s' : TS) (j : Nat) (i : Nat) (hi : i = 2065 + j) (v : Value) (hh : ∀ vo vi, s'.hd vo vi = s.hd vo vi) (ht : ∀ vp fe, s'.tl vp fe = (s.tl vp fe).set j v)
    (he : s'.early = s.early) (ho : s'.out = s.out) (hin : s'.inn = s.inn) (hp : s'.pack = s.pack) (hf : s'.told = true → s.told = true ∧ s'.rnum s'.fend = s.rnum s.fend) : ConnIs N (w.setCell ⟨k, i, none⟩ v) k s' vp := by
  subst hi
  obtain ⟨vo, vi, fe, eh, h1, h2, h3, h4, h5, h6, h7, h8, h9⟩ := h
  have hg := grown_setCell w k (2065 + j) v
  refine ⟨vo, vi, fe, eh, ?_, he ▸ h2, h3, fun e => (h4 (hf e).1).trans (hf e).2.symm, ho ▸ h5.grown hg (.inr (.inl rfl)), hin ▸ h6.grown hg (.inr (.inl rfl)), hp ▸ h7.grown hg (.inr (.inl rfl)) (fun e => (h9 k e).2 rfl), h8, h9⟩
  have := h1.set (2065 + j) v
  unfold TS.cells at this ⊢
  rw [set_tl (TS.hd_len _ _ _) h2.1, ← hh, ← ht vp fe] at this
  exact this
/-- The bytes that go out are others. -/
theorem ConnIs.setO (h : ConnIs N w k s vp) (s' : TS) (v : Value) (hv : SlN (NN N k vp) w v s'.out) (hh : ∀ vo vi, s'.hd vo vi = s.hd vo vi) (ht : ∀ vp fe, s'.tl vp fe = s.tl vp fe)
    (he : s'.early = s.early) (hin : s'.inn = s.inn) (hp : s'.pack = s.pack) (hf : s'.told = true → s.told = true ∧ s'.rnum s'.fend = s.rnum s.fend) : ConnIs N (w.setCell ⟨k, 9, none⟩ v) k s' vp := by
  obtain ⟨vo, vi, fe, eh, h1, h2, h3, h4, h5, h6, h7, h8, h9⟩ := h
  have hg := grown_setCell w k 9 v
  refine ⟨v, vi, fe, eh, ?_, he ▸ h2, h3, fun e => (h4 (hf e).1).trans (hf e).2.symm, hv.grown hg (.inr (.inl rfl)), hin ▸ h6.grown hg (.inr (.inl rfl)), hp ▸ h7.grown hg (.inr (.inl rfl)) (fun e => (h9 k e).2 rfl), h8, h9⟩
  have := h1.set 9 v
  unfold TS.cells at this ⊢
  rw [set_hd 9 (by rw [TS.hd_len]; omega)] at this
  rw [hh, ht]
  exact this
theorem ConnIs.setI (h : ConnIs N w k s vp) (s' : TS) (v : Value) (hv : SlN (NN N k vp) w v s'.inn) (hh : ∀ vo vi, s'.hd vo vi = s.hd vo vi) (ht : ∀ vp fe, s'.tl vp fe = s.tl vp fe)
    (he : s'.early = s.early) (ho : s'.out = s.out) (hp : s'.pack = s.pack) (hf : s'.told = true → s.told = true ∧ s'.rnum s'.fend = s.rnum s.fend) : ConnIs N (w.setCell ⟨k, 16, none⟩ v) k s' vp := by
  obtain ⟨vo, vi, fe, eh, h1, h2, h3, h4, h5, h6, h7, h8, h9⟩ := h
  have hg := grown_setCell w k 16 v
  refine ⟨vo, v, fe, eh, ?_, he ▸ h2, h3, fun e => (h4 (hf e).1).trans (hf e).2.symm, ho ▸ h5.grown hg (.inr (.inl rfl)), hv.grown hg (.inr (.inl rfl)), hp ▸ h7.grown hg (.inr (.inl rfl)) (fun e => (h9 k e).2 rfl), h8, h9⟩
  have := h1.set 16 v
  unfold TS.cells at this ⊢
  rw [set_hd 16 (by rw [TS.hd_len]; omega)] at this
  rw [hh, ht]
  exact this
end
/-- The row of packets is another. -/
theorem ConnIs.setP {N : Nat → Prop} {w w1 : World} {k : Nat} {s : TS} {vp : Value} (h : ConnIs N w k s vp) (s' : TS) (v : Value) (hv : PackIs (NN N k v) w1 v s'.pack) (hb : ∀ b, v.ownBlock = some b → ¬ N b ∧ b ≠ k)
    (hw : Chg k vp w w1) (hk : w1.heap[k]? = w.heap[k]?) (ha : After w vp v) (hh : ∀ vo vi, s'.hd vo vi = s.hd vo vi) (ht : ∀ vp fe, s'.tl vp fe = s.tl vp fe) (he : s'.early = s.early) (ho : s'.out = s.out) (hin : s'.inn = s.inn) (hf : s'.told = true → s.told = true ∧ s'.rnum s'.fend = s.rnum s.fend) : ConnIs N (w1.setCell ⟨k, 2073, none⟩ v) k s' v := by
  have hlt := h.lt
  obtain ⟨vo, vi, fe, eh, h1, h2, h3, h4, h5, h6, h7, h8, h9⟩ := h
  have hg := grown_setCell w1 k 2073 v
  have sl : ∀ {u : Value} {l : List UInt8}, SlN (NN N k vp) w u l → SlN (NN N k v) w1 u l := by
    rintro u l ⟨A, c, e1, a1, a2, a3, a4⟩
    refine ⟨A, c, e1, a1, a2, a3.chg hw fun h0 b o eb => ⟨fun e => a4 h0 b o eb (.inr (.inl e)), fun e => a4 h0 b o eb (.inr (.inr e))⟩, fun h0 b o eb hn => ?_⟩
    rcases hn with hn | hn | hn
    · exact a4 h0 b o eb (.inl hn)
    · exact a4 h0 b o eb (.inr (.inl hn))
    · rcases ha b hn with e | e
      · exact a4 h0 b o eb (.inr (.inr e))
      · obtain ⟨b', o', e', hc⟩ := a3 0 h0
        rw [eb] at e'
        injection e' with e'
        injection e' with e1 e2
        subst e1
        have := World.block_lt_of_cell? w _ hc
        simp at this
        omega
  refine ⟨vo, vi, fe, eh, ?_, he ▸ h2, h3, fun e => (h4 (hf e).1).trans (hf e).2.symm, ho ▸ (sl h5).grown hg (.inr (.inl rfl)), hin ▸ (sl h6).grown hg (.inr (.inl rfl)), hv.grown hg (.inr (.inl rfl)) (fun e => (hb k e).2 rfl), h8, hb⟩
  have := (h1.same hk).set (2065 + 8) v
  unfold TS.cells at this ⊢
  rw [set_tl (TS.hd_len _ _ _) h2.1] at this
  rw [hh, ht]
  exact this

theorem window_calls {N : Nat → Prop} (w : World) (k : Nat) (s : TS) (vp : Value) (h : ConnIs N w k s vp) (hi : s.inn.length ≤ 1024) :
    Calls Try.prog 78 #[.pointer (some ⟨k, 0, none⟩)] w fun e w' => e = .returned (.int .i64 (s.window : Int)) ∧ w = w' := by
  obtain ⟨A, c, c16, _⟩ := h.cellI
  obtain ⟨n, hn⟩ : ∃ n, s.inn.length = n := ⟨_, rfl⟩
  have HW : Hid (s.window = 1024 - n) := Lib.hid (by unfold TS.window; rw [hn])
  rw [hn] at c16 hi
  clear hn h
  go_enter Try.func78, Try.ntmps78
  go_wp2
  go_ret
  exact ⟨ret_int (by rw [HW.out]; omega), rfl⟩
theorem made_calls {N : Nat → Prop} (w : World) (k : Nat) (s : TS) (vp : Value) (h : ConnIs N w k s vp) :
    Calls Try.prog 45 #[.pointer (some ⟨k, 0, none⟩)] w fun e w' => e = .returned (.bool (decide (s.state ≠ 0))) ∧ w = w' := by
  have c := h.cellT 4 (fun _ _ => rfl) 2069 rfl
  obtain ⟨st, hst⟩ : ∃ st, s.state = st := ⟨_, rfl⟩
  rw [hst] at c ⊢
  clear hst h
  go_enter Try.func45, Try.ntmps45
  go_wp2
  go_ret
  exact ⟨ret_bool (by rw [Bool.eq_iff_iff]; simp <;> omega), rfl⟩
theorem made_nil (w : World) :
    Calls Try.prog 45 #[.pointer none] w fun e w' => e = .returned (.bool false) ∧ w = w' := by
  go_enter Try.func45, Try.ntmps45
  go_wp2
  go_ret
  exact ⟨rfl, rfl⟩
end Go.Proofs.Ytjhnnnklfhbebaa
