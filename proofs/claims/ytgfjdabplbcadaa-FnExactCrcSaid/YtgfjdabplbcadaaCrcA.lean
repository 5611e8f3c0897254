/-
  The CRC-32 that both functions (the program's and the reference's) reckon, as a function of the bytes alone; walked through the code. Conditions: the text is no longer than Go lets a string be.
-/
import Derived.Test.YtgfjdabplbcadaaProg
import Derived.WalkKit
import Derived.ProofKit
import Derived.Handy
import Derived.LoopTactic
namespace Go.Proofs.Ytgfjdabplbcadaa
open Go.RowKit
set_option linter.unusedVariables false

/-- One bit's step. -/
def st (c : Nat) : Nat := if c % 2 = 1 then (c / 2) ^^^ 3988292384 else c / 2
def stN : Nat → Nat → Nat
  | 0, c => c
  | n + 1, c => st (stN n c)
def crcN (l : List UInt8) : Nat := l.foldl (fun c b => stN 8 (c ^^^ b.toNat)) 4294967295

theorem xor_lt (a b : Nat) (ha : a < 4294967296) (hb : b < 4294967296) : a ^^^ b < 4294967296 := Nat.xor_lt_two_pow (n := 32) ha hb
theorem st_lt (c : Nat) (h : c < 4294967296) : st c < 4294967296 := by
  unfold st; split
  · exact xor_lt _ _ (by omega) (by omega)
  · omega
theorem stN_lt (n c : Nat) (h : c < 4294967296) : stN n c < 4294967296 := by
  induction n with
  | zero => exact h
  | succ n ih => exact st_lt _ ih
theorem crcN_snoc (l : List UInt8) (b : UInt8) : crcN (l ++ [b]) = stN 8 (crcN l ^^^ b.toNat) := by simp [crcN]
theorem crcN_take (l : List UInt8) (k : Nat) (h : k < l.length) : crcN (l.take (k + 1)) = stN 8 (crcN (l.take k) ^^^ l[k].toNat) := by
  rw [List.take_succ_eq_append_getElem h, crcN_snoc]
theorem xorBits (a b n : Nat) (ha : a < 4294967296) (hb : b < 4294967296) (hn : 4294967296 ≤ 2 ^ n) :
    (BitVec.ofInt n (a : Int) ^^^ BitVec.ofInt n (b : Int)).toNat = a ^^^ b := by
  simp [BitVec.toNat_xor, Nat.mod_eq_of_lt (show a < 2 ^ n by omega), Nat.mod_eq_of_lt (show b < 2 ^ n by omega)]
theorem xor64 (a b : Nat) (ha : a < 4294967296) (hb : b < 4294967296) : bits .xor .i64 a b = ((a ^^^ b : Nat) : Int) := by
  have h := xor_lt a b ha hb
  simp only [bits, xorBits a b _ ha hb (show 4294967296 ≤ 2 ^ IntKind.i64.bits by decide)]
  rw [IntKind.wrap_i64]; omega
theorem xor32 (a b : Nat) (ha : a < 4294967296) (hb : b < 4294967296) : bits .xor .u32 a b = ((a ^^^ b : Nat) : Int) := by
  have h := xor_lt a b ha hb
  simp only [bits, xorBits a b _ ha hb (show 4294967296 ≤ 2 ^ IntKind.u32.bits by decide)]
  rw [IntKind.wrap_u32]; omega

theorem walk8 (s : ByteArray) (hs : s.size ≤ 9223372036854775807) (w : World) :
    Calls Try.prog 8 #[.string s] w fun e w' => e = .returned (.int .i64 ((crcN s.data.toList ^^^ 4294967295 : Nat) : Int)) ∧ w' = w := by
  go_enter Try.func8, Try.ntmps8
  go_wp2
  go_loop [3, 4] (fun c i => ∃ k m : Nat, k ≤ s.size ∧ i = .int .i64 k ∧ c = .int .i64 m ∧ m < 4294967296 ∧ Hid (m = crcN (s.data.toList.take k))) (fun _ i => s.size - (intOf i).toNat)
  case atStart => exact ⟨0, 4294967295, by omega, rfl, rfl, by omega, by simp [crcN, Hid]⟩
  case round =>
    obtain ⟨k, m, hk, rfl, rfl, hm, hc⟩ := hrel
    go_wp2
    · have hlt0 : k < s.size := by assumption
      have hb : s[k].toNat < 256 := UInt8.toNat_lt _
      have hx : bits .xor .i64 (m : Int) (wrap64 (s[k].toNat : Int)) = ((m ^^^ s[k].toNat : Nat) : Int) := by
        rw [show wrap64 (s[k].toNat : Int) = (s[k].toNat : Int) by go_arith]
        exact xor64 _ _ hm (by omega)
      go_loop [3, 5] (fun c j => ∃ n : Nat, n ≤ 8 ∧ j = .int .i64 n ∧ c = .int .i64 (stN n (m ^^^ s[k].toNat) : Nat)) (fun _ j => 8 - (intOf j).toNat)
      case atStart => exact ⟨0, by omega, rfl, by rw [hx]; rfl⟩
      case round =>
        obtain ⟨n, hn, rfl, rfl⟩ := hrel
        have hlt2 := stN_lt n _ (xor_lt _ _ hm (show s[k].toNat < 4294967296 by omega))
        generalize hq : stN n (m ^^^ s[k].toNat) = q at *
        go_wp2
        · go_round
          case rel => exact ⟨n + 1, by omega, by simp, by
            rename_i hpar
            have hp : q % 2 = 1 := by simp at hpar; omega
            rw [show ((q : Int) / 2) = ((q / 2 : Nat) : Int) by omega, show (3988292384 : Int) = ((3988292384 : Nat) : Int) by rfl, xor64 _ _ (by omega) (by omega), stN, hq, st, if_pos hp]⟩
          case measure => simp [intOf]; omega
        · go_round
          case rel => exact ⟨n + 1, by omega, by simp, by
            rename_i hpar
            have hp : ¬ q % 2 = 1 := by simp at hpar; omega
            rw [show ((q : Int) / 2) = ((q / 2 : Nat) : Int) by omega, stN, hq, st, if_neg hp]⟩
          case measure => simp [intOf]; omega
        · have hn8 : n = 8 := by omega
          subst hn8
          go_round
          case rel => exact ⟨k + 1, q, by omega, by simp, rfl, hlt2, by
            unfold Hid at hc ⊢
            rw [crcN_take _ _ (by simpa using hlt0), ← hc, ← hq]; rfl⟩
          case measure => simp [intOf]; omega
    · go_ret
      have hk' : k = s.size := by omega
      unfold Hid at hc
      rw [hk', List.take_of_length_le (by simp)] at hc
      refine ⟨?_, rfl⟩
      rw [show (4294967295 : Int) = ((4294967295 : Nat) : Int) by rfl, xor64 _ _ hm (by omega), hc]
      rfl

theorem walk5 (s : ByteArray) (hs : s.size ≤ 9223372036854775807) (w : World) :
    Calls Try.prog 5 #[.string s] w fun e w' => e = .returned (.int .i64 ((crcN s.data.toList ^^^ 4294967295 : Nat) : Int)) ∧ w' = w := by
  go_enter Try.func5, Try.ntmps5
  go_wp2_with fail
  go_call walk8 as e w' ⟨he, rfl⟩
  subst he
  go_wp2
  go_ret
  exact ⟨by first | rfl | simp, rfl⟩

theorem and1 (q : Nat) (hq : q < 4294967296) : bits .and .u32 (q : Int) 1 = ((q % 2 : Nat) : Int) := by
  have e : (BitVec.ofInt IntKind.u32.bits (q : Int) &&& BitVec.ofInt IntKind.u32.bits 1).toNat = q % 2 := by
    show (BitVec.ofInt 32 (q : Int) &&& BitVec.ofInt 32 1).toNat = q % 2
    rw [BitVec.toNat_and, BitVec.ofInt_natCast, BitVec.toNat_ofNat, Nat.mod_eq_of_lt (by omega)]
    exact Nat.and_one_is_mod q
  simp only [bits, e]
  rw [IntKind.wrap_u32]; omega

theorem walk6 (s : ByteArray) (hs : s.size ≤ 9223372036854775807) (w : World) :
    Calls Try.prog 6 #[.string s] w fun e w' => e = .returned (.int .i64 ((crcN s.data.toList ^^^ 4294967295 : Nat) : Int)) ∧ w' = w := by
  go_enter Try.func6, Try.ntmps6
  go_wp2
  go_loop [3, 4] (fun c i => ∃ k m : Nat, k ≤ s.size ∧ i = .int .i64 k ∧ c = .int .u32 m ∧ m < 4294967296 ∧ Hid (m = crcN (s.data.toList.take k))) (fun _ i => s.size - (intOf i).toNat)
  case atStart => exact ⟨0, 4294967295, by omega, rfl, rfl, by omega, by simp [crcN, Hid]⟩
  case round =>
    obtain ⟨k, m, hk, rfl, rfl, hm, hc⟩ := hrel
    go_wp2
    · have hlt0 : k < s.size := by assumption
      have hb : s[k].toNat < 256 := UInt8.toNat_lt _
      have hx : bits .xor .u32 (m : Int) ((s[k].toNat : Int) % 4294967296) = ((m ^^^ s[k].toNat : Nat) : Int) := by
        rw [show (s[k].toNat : Int) % 4294967296 = (s[k].toNat : Int) by omega]
        exact xor32 _ _ hm (by omega)
      go_loop [3, 5] (fun c j => ∃ n : Nat, n ≤ 8 ∧ j = .int .i64 n ∧ c = .int .u32 (stN n (m ^^^ s[k].toNat) : Nat)) (fun _ j => 8 - (intOf j).toNat)
      case atStart => exact ⟨0, by omega, rfl, by rw [hx]; rfl⟩
      case round =>
        obtain ⟨n, hn, rfl, rfl⟩ := hrel
        have hlt2 := stN_lt n _ (xor_lt _ _ hm (show s[k].toNat < 4294967296 by omega))
        generalize hq : stN n (m ^^^ s[k].toNat) = q at *
        go_wp2
        · go_round
          case rel => exact ⟨n + 1, by omega, by simp, by
            rename_i hpar
            rw [and1 q hlt2] at hpar
            have hp : q % 2 = 1 := by simp at hpar; omega
            rw [show ((q : Int) / 2) = ((q / 2 : Nat) : Int) by omega, show (3988292384 : Int) = ((3988292384 : Nat) : Int) by rfl, xor32 _ _ (by omega) (by omega), stN, hq, st, if_pos hp]⟩
          case measure => simp [intOf]; omega
        · go_round
          case rel => exact ⟨n + 1, by omega, by simp, by
            rename_i hpar
            rw [and1 q hlt2] at hpar
            have hp : ¬ q % 2 = 1 := by simp at hpar; omega
            rw [show ((q : Int) / 2) = ((q / 2 : Nat) : Int) by omega, stN, hq, st, if_neg hp]⟩
          case measure => simp [intOf]; omega
        · have hn8 : n = 8 := by omega
          subst hn8
          go_round
          case rel => exact ⟨k + 1, q, by omega, by simp, rfl, hlt2, by
            unfold Hid at hc ⊢
            rw [crcN_take _ _ (by simpa using hlt0), ← hc, ← hq]; rfl⟩
          case measure => simp [intOf]; omega
    · go_ret
      have hk' : k = s.size := by omega
      unfold Hid at hc
      rw [hk', List.take_of_length_le (by simp)] at hc
      refine ⟨?_, rfl⟩
      have hl := xor_lt _ _ hm (show 4294967295 < 4294967296 by omega)
      have e : wrap64 (bits .xor .u32 IntKind.u32.max (m : Int)) = ((crcN s.data.toList ^^^ 4294967295 : Nat) : Int) := by
        rw [show IntKind.u32.max = ((4294967295 : Nat) : Int) by rfl, xor32 _ _ (by omega) hm, Nat.xor_comm, ← hc]
        generalize m ^^^ 4294967295 = z at *
        go_arith
      rw [e]
      rfl
end Go.Proofs.Ytgfjdabplbcadaa
