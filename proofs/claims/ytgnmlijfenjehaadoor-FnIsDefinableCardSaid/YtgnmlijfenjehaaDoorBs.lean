/-
  Texts as lists of bytes. No condition.
-/
import Derived.Lib.Strings
import Derived.Lib.Hide
import Derived.WalkKit
namespace Go.Proofs.YtgnmlijfenjehaaDoor
open Go.RowKit

def bs (l : List UInt8) : ByteArray := ⟨l.toArray⟩
theorem bs_data (l : List UInt8) : (bs l).data.toList = l := rfl
theorem bs_size (l : List UInt8) : (bs l).size = l.length := by rw [Lib.size_eq]; rfl
theorem bs_of (s : ByteArray) : bs s.data.toList = s := Lib.mk_data s
theorem bs_inj {a b : List UInt8} (h : bs a = bs b) : a = b := by rw [← bs_data a, ← bs_data b, h]
theorem eq_bs {s : ByteArray} {l : List UInt8} (h : s.data.toList = l) : s = bs l := by rw [← h, bs_of]

theorem append_bs (a b : ByteArray) : a ++ b = bs (a.data.toList ++ b.data.toList) := by
  apply eq_bs
  simp

theorem ret_pair {a b c d : Value} (h1 : a = c) (h2 : b = d) : Ending.returned (.tuple #[a, b]) = .returned (.tuple #[c, d]) := by rw [h1, h2]
theorem str_eq {a b : ByteArray} (h : a = b) : Value.string a = .string b := by rw [h]

theorem size_le_of {s : ByteArray} {l : List UInt8} (h : s.data.toList = l) : s.size = l.length := by rw [Lib.size_eq, h]

end Go.Proofs.YtgnmlijfenjehaaDoor
