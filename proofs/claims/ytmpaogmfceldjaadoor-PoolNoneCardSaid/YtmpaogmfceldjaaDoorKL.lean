/- Pools that were not made; the law PoolNone, walked. -/
import Derived.Test.YtmpaogmfceldjaaDoorKWI
namespace Go.Proofs.YtmpaogmfceldjaaDoor
open Go.RowKit
open Go.Sort (grow)

/-- No pool, or a zero one. -/
def NoP (w : World) (v : Value) : Prop := v = .pointer none ∨ ∃ p, v = .pointer (some ⟨p, 0, none⟩) ∧ p < w.heap.size ∧ w.cell? ⟨p, 1, none⟩ = some (.int .i64 0)
theorem NoP.on {w w' : World} {v : Value} (h : NoP w v) (hb : Below w.heap.size w w') : NoP w' v := by
  rcases h with h | ⟨p, e, hp, h⟩
  · exact .inl h
  · exact .inr ⟨p, e, Nat.lt_of_lt_of_le hp hb.size, (hb.cell (p := ⟨p, 1, none⟩) hp).trans h⟩
theorem nmade_any {w : World} {v : Value} (h : NoP w v) : Calls Tryd.prog 46 #[v] w fun e w' => e = .returned (.bool false) ∧ w = w' := by
  rcases h with rfl | ⟨p, rfl, hp, q1⟩
  all_goals
    go_enter Tryd.func46, Tryd.ntmps46
    go_wp2
    go_ret
    exact ⟨rfl, rfl⟩
theorem ncall_any {w : World} {v : Value} (h : NoP w v) (now : Int) (f : Value) : Calls Tryd.prog 33 #[v, .int .i64 now, f] w fun e w' => e = .returned (.int .i64 10) ∧ w = w' := by
  go_enter Tryd.func33, Tryd.ntmps33
  go_wp2_with fail
  refine (nmade_any h).mono ?_
  rintro e wq ⟨rfl, rfl⟩
  go_wp2_with fail
  go_ret
  exact ⟨rfl, rfl⟩
theorem ncol_any {w : World} {v : Value} (h : NoP w v) : Calls Tryd.prog 25 #[v] w fun e w' => e = .returned (.int .i64 0) ∧ w = w' := by
  go_enter Tryd.func25, Tryd.ntmps25
  go_wp2_with fail
  refine (nmade_any h).mono ?_
  rintro e wq ⟨rfl, rfl⟩
  go_wp2_with fail
  go_ret
  exact ⟨rfl, rfl⟩
theorem nlst_any {w : World} {v : Value} (h : NoP w v) : Calls Tryd.prog 23 #[v] w fun e w' => e = .returned (.slice none 0 0) ∧ w = w' := by
  go_enter Tryd.func23, Tryd.ntmps23
  go_wp2_with fail
  refine (nmade_any h).mono ?_
  rintro e wq ⟨rfl, rfl⟩
  go_wp2_with fail
  go_ret
  exact ⟨rfl, rfl⟩
theorem ncnt_any {w : World} {v : Value} (h : NoP w v) : Calls Tryd.prog 20 #[v] w fun e w' => e = .returned (.tuple #[.int .i64 0, .int .i64 0]) ∧ w = w' := by
  go_enter Tryd.func20, Tryd.ntmps20
  go_wp2_with fail
  refine (nlst_any h).mono ?_
  rintro e wq ⟨rfl, rfl⟩
  go_wp2_with fail
  go_loop [4, 5, 11] (fun a b i => a = .int .i64 0 ∧ b = .int .i64 0 ∧ i = .int .i64 0) (fun _ _ _ => 0)
  case atStart => exact ⟨rfl, rfl, rfl⟩
  case round =>
    obtain ⟨rfl, rfl, rfl⟩ := hrel
    go_wp2_with fail
    go_ret2
    exact ⟨rfl, rfl⟩
set_option maxHeartbeats 2000000 in
theorem nacq_any {w : World} {v : Value} (h : NoP w v) (now : Int) : Calls Tryd.prog 11 #[v, .int .i64 now] w fun e w' => e = .returned (.tuple #[.string ⟨#[]⟩, .int .i64 0, .int .i64 10]) ∧ Below w.heap.size w w' := by
  have h2 := h
  rcases h with rfl | ⟨p, rfl, hp, q1⟩
  · have HH := Lib.hid h2
    have hb1 : Below w.heap.size w ((((w.alloc (.cells #[.pointer none] 25)).alloc (.cells #[.int .i64 now] 3)).alloc (.cells #[.string ⟨#[]⟩] 9)).alloc (.cells #[.int .i64 0] 3)) := (((((Below.refl _ _).alloc (Nat.le_refl _) _).alloc (by simp) _).alloc (by simp; omega) _).alloc (by simp; omega) _)
    have HB := Lib.hid hb1
    have HN := Lib.hid (HH.out.on hb1)
    clear hb1 h2
    go_enter Tryd.func11, Tryd.ntmps11
    go_wp2_with fail
    refine (ncall_any HN.out _ _).mono ?_
    rintro e wq ⟨rfl, rfl⟩
    have s1 : ((((w.alloc (.cells #[.pointer none] 25)).alloc (.cells #[.int .i64 now] 3)).alloc (.cells #[.string ⟨#[]⟩] 9)).alloc (.cells #[.int .i64 0] 3)).cell? ⟨w.heap.size + 2, 0, none⟩ = some (.string ⟨#[]⟩) := ((Blk.new2 w _ _ _ _).alloc _).cell 0
    have a1 : ((((w.alloc (.cells #[.pointer none] 25)).alloc (.cells #[.int .i64 now] 3)).alloc (.cells #[.string ⟨#[]⟩] 9)).alloc (.cells #[.int .i64 0] 3)).cell? ⟨w.heap.size + 3, 0, none⟩ = some (.int .i64 0) := (Blk.new3 w _ _ _ _ _).cell 0
    generalize ((((w.alloc (.cells #[.pointer none] 25)).alloc (.cells #[.int .i64 now] 3)).alloc (.cells #[.string ⟨#[]⟩] 9)).alloc (.cells #[.int .i64 0] 3)) = W at *
    go_wp2_with fail
    go_quiet (fail)
    go_wp2_with fail
    go_ret3
    exact ⟨rfl, HB.out.trans (below_drewN' _ _ _)⟩
  · have HH := Lib.hid h2
    have hb1 : Below w.heap.size w ((((w.alloc (.cells #[.pointer (some ⟨p, 0, none⟩)] 25)).alloc (.cells #[.int .i64 now] 3)).alloc (.cells #[.string ⟨#[]⟩] 9)).alloc (.cells #[.int .i64 0] 3)) := (((((Below.refl _ _).alloc (Nat.le_refl _) _).alloc (by simp) _).alloc (by simp; omega) _).alloc (by simp; omega) _)
    have HB := Lib.hid hb1
    have HN := Lib.hid (HH.out.on hb1)
    clear hb1 h2
    go_enter Tryd.func11, Tryd.ntmps11
    go_wp2_with fail
    refine (ncall_any HN.out _ _).mono ?_
    rintro e wq ⟨rfl, rfl⟩
    have s1 : ((((w.alloc (.cells #[.pointer (some ⟨p, 0, none⟩)] 25)).alloc (.cells #[.int .i64 now] 3)).alloc (.cells #[.string ⟨#[]⟩] 9)).alloc (.cells #[.int .i64 0] 3)).cell? ⟨w.heap.size + 2, 0, none⟩ = some (.string ⟨#[]⟩) := ((Blk.new2 w _ _ _ _).alloc _).cell 0
    have a1 : ((((w.alloc (.cells #[.pointer (some ⟨p, 0, none⟩)] 25)).alloc (.cells #[.int .i64 now] 3)).alloc (.cells #[.string ⟨#[]⟩] 9)).alloc (.cells #[.int .i64 0] 3)).cell? ⟨w.heap.size + 3, 0, none⟩ = some (.int .i64 0) := (Blk.new3 w _ _ _ _ _).cell 0
    generalize ((((w.alloc (.cells #[.pointer (some ⟨p, 0, none⟩)] 25)).alloc (.cells #[.int .i64 now] 3)).alloc (.cells #[.string ⟨#[]⟩] 9)).alloc (.cells #[.int .i64 0] 3)) = W at *
    go_wp2_with fail
    go_quiet (fail)
    go_wp2_with fail
    go_ret3
    exact ⟨rfl, HB.out.trans (below_drewN' _ _ _)⟩
set_option maxHeartbeats 2000000 in
theorem nrel_any {w : World} {v : Value} (h : NoP w v) (id : ByteArray) (now : Int) : Calls Tryd.prog 13 #[v, .string id, .int .i64 now] w fun e w' => e = .returned (.int .i64 10) ∧ Below w.heap.size w w' := by
  have h2 := h
  rcases h with rfl | ⟨p, rfl, hp, q1⟩
  · have HH := Lib.hid h2
    have hb1 : Below w.heap.size w (((w.alloc (.cells #[.pointer none] 25)).alloc (.cells #[.string id] 9)).alloc (.cells #[.int .i64 now] 3)) := ((((Below.refl _ _).alloc (Nat.le_refl _) _).alloc (by simp) _).alloc (by simp; omega) _)
    have HB := Lib.hid hb1
    have HN := Lib.hid (HH.out.on hb1)
    clear hb1 h2
    go_enter Tryd.func13, Tryd.ntmps13
    go_wp2_with fail
    refine (ncall_any HN.out _ _).mono ?_
    rintro e wq ⟨rfl, rfl⟩
    go_wp2_with fail
    go_ret
    exact ⟨rfl, HB.out⟩
  · have HH := Lib.hid h2
    have hb1 : Below w.heap.size w (((w.alloc (.cells #[.pointer (some ⟨p, 0, none⟩)] 25)).alloc (.cells #[.string id] 9)).alloc (.cells #[.int .i64 now] 3)) := ((((Below.refl _ _).alloc (Nat.le_refl _) _).alloc (by simp) _).alloc (by simp; omega) _)
    have HB := Lib.hid hb1
    have HN := Lib.hid (HH.out.on hb1)
    clear hb1 h2
    go_enter Tryd.func13, Tryd.ntmps13
    go_wp2_with fail
    refine (ncall_any HN.out _ _).mono ?_
    rintro e wq ⟨rfl, rfl⟩
    go_wp2_with fail
    go_ret
    exact ⟨rfl, HB.out⟩
set_option maxHeartbeats 2000000 in
theorem ncra_any {w : World} {v : Value} (h : NoP w v) (id : ByteArray) (now : Int) : Calls Tryd.prog 18 #[v, .string id, .int .i64 now] w fun e w' => e = .returned (.int .i64 10) ∧ Below w.heap.size w w' := by
  have h2 := h
  rcases h with rfl | ⟨p, rfl, hp, q1⟩
  · have HH := Lib.hid h2
    have hb1 : Below w.heap.size w ((w.alloc (.cells #[.pointer none] 25)).alloc (.cells #[.string id] 9)) := (((Below.refl _ _).alloc (Nat.le_refl _) _).alloc (by simp) _)
    have HB := Lib.hid hb1
    have HN := Lib.hid (HH.out.on hb1)
    clear hb1 h2
    go_enter Tryd.func18, Tryd.ntmps18
    go_wp2_with fail
    refine (ncall_any HN.out _ _).mono ?_
    rintro e wq ⟨rfl, rfl⟩
    go_wp2_with fail
    go_ret
    exact ⟨rfl, HB.out⟩
  · have HH := Lib.hid h2
    have hb1 : Below w.heap.size w ((w.alloc (.cells #[.pointer (some ⟨p, 0, none⟩)] 25)).alloc (.cells #[.string id] 9)) := (((Below.refl _ _).alloc (Nat.le_refl _) _).alloc (by simp) _)
    have HB := Lib.hid hb1
    have HN := Lib.hid (HH.out.on hb1)
    clear hb1 h2
    go_enter Tryd.func18, Tryd.ntmps18
    go_wp2_with fail
    refine (ncall_any HN.out _ _).mono ?_
    rintro e wq ⟨rfl, rfl⟩
    go_wp2_with fail
    go_ret
    exact ⟨rfl, HB.out⟩
set_option maxHeartbeats 2000000 in
theorem nexp_any {w : World} {v : Value} (h : NoP w v) (now : Int) : Calls Tryd.prog 16 #[v, .int .i64 now] w fun e w' => e = .returned (.slice none 0 0) ∧ Below w.heap.size w w' := by
  have h2 := h
  rcases h with rfl | ⟨p, rfl, hp, q1⟩
  · have HH := Lib.hid h2
    have hb1 : Below w.heap.size w (((w.alloc (.cells #[.pointer none] 25)).alloc (.cells #[.int .i64 now] 3)).alloc (.cells #[.slice none 0 0] 33)) := ((((Below.refl _ _).alloc (Nat.le_refl _) _).alloc (by simp) _).alloc (by simp; omega) _)
    have HB := Lib.hid hb1
    have HN := Lib.hid (HH.out.on hb1)
    clear hb1 h2
    go_enter Tryd.func16, Tryd.ntmps16
    go_wp2_with fail
    refine (ncall_any HN.out _ _).mono ?_
    rintro e wq ⟨rfl, rfl⟩
    go_wp2_with fail
    go_ret
    exact ⟨rfl, HB.out⟩
  · have HH := Lib.hid h2
    have hb1 : Below w.heap.size w (((w.alloc (.cells #[.pointer (some ⟨p, 0, none⟩)] 25)).alloc (.cells #[.int .i64 now] 3)).alloc (.cells #[.slice none 0 0] 33)) := ((((Below.refl _ _).alloc (Nat.le_refl _) _).alloc (by simp) _).alloc (by simp; omega) _)
    have HB := Lib.hid hb1
    have HN := Lib.hid (HH.out.on hb1)
    clear hb1 h2
    go_enter Tryd.func16, Tryd.ntmps16
    go_wp2_with fail
    refine (ncall_any HN.out _ _).mono ?_
    rintro e wq ⟨rfl, rfl⟩
    go_wp2_with fail
    go_ret
    exact ⟨rfl, HB.out⟩
set_option maxHeartbeats 8000000 in
theorem PoolNone_any (id : ByteArray) (now : Int) (w : World) (hL : LaidW w) : Calls Tryd.prog 4 #[.string id, .int .i64 now] w fun e w' => e = .returned (.bool true) ∧ Below w.heap.size w w' := by
  have HL := Lib.hid hL
  clear hL
  go_enter Tryd.func4, Tryd.ntmps4
  go_wp2_with fail
  have HZ := Lib.hid (show NoP (w.alloc (.cells #[.string ⟨#[]⟩, .int .i64 0, .int .i64 0, .int .i64 0, .int .i64 0, .int .i64 0, .int .i64 0, .slice none 0 0, .map none] 51)) (.pointer (some ⟨w.heap.size, 0, none⟩)) from .inr ⟨w.heap.size, rfl, by simp, (Blk.new w _ _).cell 1⟩)
  have HB := Lib.hid (show Below w.heap.size w (w.alloc (.cells #[.string ⟨#[]⟩, .int .i64 0, .int .i64 0, .int .i64 0, .int .i64 0, .int .i64 0, .int .i64 0, .slice none 0 0, .map none] 51)) from (Below.refl _ _).alloc (Nat.le_refl _) _)
  have HE : ∀ W : World, NoP W (.pointer none) := fun _ => .inl rfl
  have HE := Lib.hid HE
  generalize (w.alloc (.cells #[.string ⟨#[]⟩, .int .i64 0, .int .i64 0, .int .i64 0, .int .i64 0, .int .i64 0, .int .i64 0, .slice none 0 0, .map none] 51)) = w1 at *
  refine (nacq_any (HE.out _) now).mono ?_
  rintro e v1 ⟨rfl, hb⟩
  have HZ := Lib.hid (HZ.out.on hb)
  have HB := Lib.hid (HB.out.trans (hb.mono HB.out.size))
  clear hb
  go_wp2_with fail
  refine (nacq_any HZ.out now).mono ?_
  rintro e v2 ⟨rfl, hb⟩
  have HZ := Lib.hid (HZ.out.on hb)
  have HB := Lib.hid (HB.out.trans (hb.mono HB.out.size))
  clear hb
  go_wp2_with fail
  refine (nrel_any (HE.out _) id now).mono ?_
  rintro e v3 ⟨rfl, hb⟩
  have HZ := Lib.hid (HZ.out.on hb)
  have HB := Lib.hid (HB.out.trans (hb.mono HB.out.size))
  clear hb
  go_wp2_with fail
  refine (nrel_any HZ.out id now).mono ?_
  rintro e v4 ⟨rfl, hb⟩
  have HZ := Lib.hid (HZ.out.on hb)
  have HB := Lib.hid (HB.out.trans (hb.mono HB.out.size))
  clear hb
  go_wp2_with fail
  refine (ncra_any (HE.out _) id now).mono ?_
  rintro e v5 ⟨rfl, hb⟩
  have HZ := Lib.hid (HZ.out.on hb)
  have HB := Lib.hid (HB.out.trans (hb.mono HB.out.size))
  clear hb
  go_wp2_with fail
  refine (ncra_any HZ.out id now).mono ?_
  rintro e v6 ⟨rfl, hb⟩
  have HZ := Lib.hid (HZ.out.on hb)
  have HB := Lib.hid (HB.out.trans (hb.mono HB.out.size))
  clear hb
  go_wp2_with fail
  refine (ncnt_any (HE.out _)).mono ?_
  rintro e v7 ⟨rfl, rfl⟩
  go_wp2_with fail
  refine (ncnt_any HZ.out).mono ?_
  rintro e v8 ⟨rfl, rfl⟩
  go_wp2_with fail
  refine (nexp_any (HE.out _) now).mono ?_
  rintro e v9 ⟨rfl, hb⟩
  have HZ := Lib.hid (HZ.out.on hb)
  have HB := Lib.hid (HB.out.trans (hb.mono HB.out.size))
  clear hb
  go_wp2_with fail
  refine (nexp_any HZ.out now).mono ?_
  rintro e v10 ⟨rfl, hb⟩
  have HZ := Lib.hid (HZ.out.on hb)
  have HB := Lib.hid (HB.out.trans (hb.mono HB.out.size))
  clear hb
  go_wp2_with fail
  refine (nlst_any (HE.out _)).mono ?_
  rintro e v11 ⟨rfl, rfl⟩
  go_wp2_with fail
  refine (nlst_any HZ.out).mono ?_
  rintro e v12 ⟨rfl, rfl⟩
  go_wp2_with fail
  refine (ncol_any (HE.out _)).mono ?_
  rintro e v13 ⟨rfl, rfl⟩
  go_wp2_with fail
  refine (ncol_any HZ.out).mono ?_
  rintro e v14 ⟨rfl, rfl⟩
  go_wp2_with fail
  refine (awake_any _ (HL.out.below HB.out)).mono ?_
  rintro e wz ⟨rfl, hb⟩
  go_wp2_with fail
  go_ret
  exact ⟨rfl, HB.out.trans (hb.mono HB.out.size)⟩
end Go.Proofs.YtmpaogmfceldjaaDoor
