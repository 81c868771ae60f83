/- Plain: what Format and Parse make of one another. -/
import Derived.Test.YtcmlgiilifdnfaaDoorPW
namespace Go.Proofs.YtcmlgiilifdnfaaDoor
open Go.RowKit

theorem joinC_ba (c : UInt8) (s : ByteArray) : joinC c ((pcs c s).map (·.data.toList)) = s.data.toList := by rw [pcs_data, joinC_cutL]
/-- A list's text, cut again. -/
theorem pcs_bj {l : List ByteArray} (h : l ≠ []) (hc : ∀ t ∈ l, (44 : UInt8) ∉ t.data.toList) : pcs 44 (bj l) = l := by
  have h1 : cutL 44 (bj l).data.toList = l.map (·.data.toList) := by
    show cutL 44 (joinC 44 (l.map (·.data.toList))) = _
    refine cutL_join 44 _ (by simpa using h) fun q hq => ?_
    obtain ⟨t, ht, rfl⟩ := List.mem_map.1 hq
    exact hc t ht
  unfold pcs
  rw [h1, List.map_map]
  refine (List.map_congr_left (g := id) fun t _ => ?_).trans (List.map_id _)
  obtain ⟨⟨t⟩⟩ := t
  rfl
/-- A text's pieces, joined again. -/
theorem bj_pcs (s : ByteArray) : bj (pcs 44 s) = s := by
  apply ba_ext
  unfold bj
  rw [joinC_ba]
end Go.Proofs.YtcmlgiilifdnfaaDoor
