/- Texts cut in two by Go's slices. -/
import Derived.Test.YtpgdplmndnopbaaGreatDoorPrX
import Derived.Test.YtpgdplmndnopbaaGreatDoorLexM
namespace Go.Proofs.YtpgdplmndnopbaaGreatDoor
open Go.RowKit

theorem extract_pre (s : ByteArray) (k : Nat) : s.extract 0 k = byt (s.data.toList.take k) := by
  apply ByteArray.ext
  rw [ByteArray.data_extract]
  apply Array.ext'
  simp [byt]
theorem extract_post (s : ByteArray) (k : Nat) : s.extract k s.size = byt (s.data.toList.drop k) := by
  apply ByteArray.ext
  rw [ByteArray.data_extract]
  apply Array.ext'
  have hl := size_list s
  simp only [byt, Array.toList_extract, List.extract_eq_take_drop]
  exact List.take_of_length_le (by rw [List.length_drop]; omega)
theorem slice_pre (s : ByteArray) (k : Nat) (hk : k ≤ s.size) (W : World) : (Instr.slice 9 (.string s) none (some (.int .i64 (k : Int))) none).run Tryz.prog W = .ok (.string (byt (s.data.toList.take k))) W := by
  rw [← extract_pre s k, run_slice_string_to_if W 9 s .i64 k Tryz.underlying9, if_pos (by omega)]
  rfl
theorem slice_post (s : ByteArray) (k : Nat) (hk : k ≤ s.size) (W : World) : (Instr.slice 9 (.string s) (some (.int .i64 (k : Int))) none none).run Tryz.prog W = .ok (.string (byt (s.data.toList.drop k))) W := by
  rw [← extract_post s k, run_slice_string_from_if W 9 s .i64 k Tryz.underlying9, if_pos (by omega)]
  rfl
end Go.Proofs.YtpgdplmndnopbaaGreatDoor
