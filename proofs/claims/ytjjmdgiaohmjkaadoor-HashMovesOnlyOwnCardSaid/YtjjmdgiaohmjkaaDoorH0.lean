/- Bits of natural numbers in the walk's words; strings byte by byte. -/
import Derived.Test.YtjjmdgiaohmjkaaDoorU2
import Derived.Test.YtjjmdgiaohmjkaaDoorHP
import Derived.Laws.BitsAllLaws
import Derived.Laws.Bits64
namespace Go.Proofs.YtjjmdgiaohmjkaaDoor
open Go.RowKit

theorem byte_at (s : ByteArray) (k : Nat) (hk : k < s.size) : s.data.toList[k]? = some s[k] := by
  have h' : k < s.data.toList.length := by simpa using hk
  rw [List.getElem?_eq_getElem h']
  simp
  rfl
theorem size_len (s : ByteArray) : s.data.toList.length = s.size := by simp
theorem take_size (s : ByteArray) : s.data.toList.take s.size = s.data.toList := by rw [← size_len, List.take_length]
theorem take_snoc (s : ByteArray) (k : Nat) (h : k < s.size) : s.data.toList.take (k + 1) = s.data.toList.take k ++ [s[k]] := by
  rw [List.take_add_one, byte_at s k h]; rfl
theorem ba_ext {s t : ByteArray} (h : s.data.toList = t.data.toList) : s = t := by
  obtain ⟨⟨a⟩⟩ := s; obtain ⟨⟨b⟩⟩ := t
  have : a = b := h
  rw [this]
theorem ret_str {a b : ByteArray} (h : a = b) : Ending.returned (.string a) = .returned (.string b) := by rw [h]
theorem ofInt_nat {n a : Nat} (h : a < 2 ^ n) : (BitVec.ofInt n (a : Int)).toNat = a := by
  rw [BitVec.ofInt_natCast, BitVec.toNat_ofNat]; exact Nat.mod_eq_of_lt h
theorem x8 (a b : Nat) (ha : a < 256) (hb : b < 256) : bits .xor .u8 (a : Int) (b : Int) = ((a ^^^ b : Nat) : Int) := by
  have hx : a ^^^ b < 2 ^ 8 := Nat.xor_lt_two_pow (by omega) (by omega)
  show IntKind.u8.wrap ((BitVec.ofInt 8 (a : Int) ^^^ BitVec.ofInt 8 (b : Int)).toNat : Int) = _
  rw [BitVec.toNat_xor, ofInt_nat (n := 8) (by omega), ofInt_nat (n := 8) (by omega), IntKind.wrap_u8]
  omega
theorem x32 (a b : Nat) (ha : a < 4294967296) (hb : b < 4294967296) : bits .xor .u32 (a : Int) (b : Int) = ((a ^^^ b : Nat) : Int) := by
  have hx : a ^^^ b < 2 ^ 32 := Nat.xor_lt_two_pow (by omega) (by omega)
  show IntKind.u32.wrap ((BitVec.ofInt 32 (a : Int) ^^^ BitVec.ofInt 32 (b : Int)).toNat : Int) = _
  rw [BitVec.toNat_xor, ofInt_nat (n := 32) (by omega), ofInt_nat (n := 32) (by omega), IntKind.wrap_u32]
  omega
theorem a32 (a : Nat) (ha : a < 4294967296) : bits .and .u32 (a : Int) 1 = ((a % 2 : Nat) : Int) := by
  show IntKind.u32.wrap ((BitVec.ofInt 32 (a : Int) &&& BitVec.ofInt 32 ((1 : Nat) : Int)).toNat : Int) = _
  rw [BitVec.toNat_and, ofInt_nat (n := 32) (by omega), ofInt_nat (n := 32) (by omega), IntKind.wrap_u32, Nat.and_one_is_mod]
  omega
theorem n32 (a : Nat) (ha : a < 4294967296) : bits .xor .u32 4294967295 (a : Int) = 4294967295 - (a : Int) := by
  have hb : BitVec.ofInt 32 4294967295 = BitVec.allOnes 32 := by decide
  show IntKind.u32.wrap ((BitVec.ofInt 32 4294967295 ^^^ BitVec.ofInt 32 (a : Int)).toNat : Int) = _
  rw [hb, BitVec.allOnes_xor, BitVec.toNat_not, ofInt_nat (n := 32) (by omega), IntKind.wrap_u32]
  omega
theorem a64 (a : Nat) (ha : a < 18446744073709551616) : bits .and .u64 (a : Int) 15 = ((a % 16 : Nat) : Int) := by
  show IntKind.u64.wrap ((BitVec.ofInt 64 (a : Int) &&& BitVec.ofInt 64 ((15 : Nat) : Int)).toNat : Int) = _
  have h15 : a &&& 15 = a % 16 := Nat.and_two_pow_sub_one_eq_mod a 4
  rw [BitVec.toNat_and, ofInt_nat (n := 64) (by omega), ofInt_nat (n := 64) (by omega), IntKind.wrap_u64, h15]
  omega
theorem o64 (a b : Nat) (ha : a * 16 < 18446744073709551616) (hb : b < 16) : bits .or .u64 ((a : Int) * 16) (b : Int) = ((a * 16 + b : Nat) : Int) := by
  have h := (Nat.two_pow_add_eq_or_of_lt (show b < 2 ^ 4 by omega) a).symm
  show IntKind.u64.wrap ((BitVec.ofInt 64 ((a : Int) * 16) ||| BitVec.ofInt 64 (b : Int)).toNat : Int) = _
  rw [show (a : Int) * 16 = ((2 ^ 4 * a : Nat) : Int) by omega, BitVec.toNat_or, ofInt_nat (n := 64) (by omega), ofInt_nat (n := 64) (by omega), IntKind.wrap_u64, h]
  omega
end Go.Proofs.YtjjmdgiaohmjkaaDoor
