/- The times: both of them. -/
import Derived.Test.YtefaojbfoboikaaDoorH
namespace Go.Proofs.YtefaojbfoboikaaDoor
open Go.RowKit
def timI (a b f c m s : Int) : List Int × Int := if RP.ok ⟨a, b, f, c, m⟩ = true then (if 0 ≤ s ∧ s ≤ 1073741824 then ((tmS b f c s m (a.toNat - 1)).1, 0) else ([], 2)) else ([], 2)
/-- What a call of Times leaves. -/
def TimP (w w' : World) (p : List Int × Int) (e : Ending) : Prop :=
  ∃ v, e = .returned (.tuple #[v, .int .i64 p.2]) ∧ w'.ownsRow w.heap.size 3 1 v p.1.length (p.1.map (Value.int .i64)) ∧ Below w.heap.size w w'
theorem TimP.none {w w' : World} {p : List Int × Int} {e : Ending} (h : p = ([], 2)) (he : e = .returned (.tuple #[.slice none 0 0, .int .i64 2])) (hb : Below w.heap.size w w') : TimP w w' p e := by
  subst h
  exact ⟨_, he, ⟨rfl, .inl ⟨rfl, rfl⟩⟩, hb⟩
theorem TS.new {w w1 W : World} {s m : Int} (hb : Below w.heap.size w w1) (h2 : w.heap.size + 1 < w1.heap.size) (hs : w1.cell? ⟨w.heap.size + 1, 0, none⟩ = some (.int .i64 s)) (hm : w1.cell? ⟨w.heap.size, 4, none⟩ = some (.int .i64 m))
    {w2 : World} (e : w2 = (w1.alloc (.cells #[.int .i64 s] 3)).alloc (.cells #[.slice (some ⟨w1.heap.size, 0, none⟩) 1 1] 32))
    (hW : Below w2.heap.size w2 W) (hlt : w2.heap.size < W.heap.size) :
    TS w W (w1.heap.size + 1) (w.heap.size + 1) w.heap.size w.heap.size w2.heap.size s m [s] w1.heap.size 1 := by
  have hz : w2.heap.size = w1.heap.size + 2 := by subst e; simp
  have hlow : Below w1.heap.size w1 w2 := by
    subst e
    exact ((Below.refl _ _).alloc (Nat.le_refl _) _).alloc (by simp) _
  have hlow2 : Below w1.heap.size w1 W := hlow.trans (hW.mono (by omega))
  have hc : w2.cell? ⟨w1.heap.size + 1, 0, none⟩ = some (.slice (some ⟨w1.heap.size, 0, none⟩) 1 1) := by
    subst e
    go_simp
  have hf : w2.frozen? ⟨w1.heap.size + 1, 0, none⟩ = false := by
    subst e; go_simp
  have hh : w2.heap[w1.heap.size]? = some (.cells #[.int .i64 s] 3) := by
    subst e
    rw [((Below.refl _ _).alloc (Nat.le_refl _) _).block _ (by simp)]
    exact heap_alloc_new _ _
  have hl := hb.size
  refine ⟨hb.trans (hlow2.mono hl), (hW.cell (p := ⟨w1.heap.size + 1, 0, none⟩) (by show w1.heap.size + 1 < _; omega)).trans hc, (hW.frozen (p := ⟨w1.heap.size + 1, 0, none⟩) (by show w1.heap.size + 1 < _; omega)).trans hf, ?_, (hlow2.cell (p := ⟨w.heap.size + 1, 0, none⟩) h2).trans hs, (hlow2.cell (p := ⟨w.heap.size, 4, none⟩) (by show w.heap.size < _; omega)).trans hm, by omega, ⟨by omega, by omega, by omega⟩, ⟨by omega, by omega, by omega, hlt, by omega⟩⟩
  refine ⟨rfl, .inr ⟨w1.heap.size, 1, #[.int .i64 s], rfl, hl, (hW.block _ (by omega)).trans hh, ?_⟩⟩
  simp [maxLen]
set_option maxHeartbeats 2000000 in
theorem Times_any (a b f c m s : Int) (w : World) :
    Calls Tryd.prog 17 #[.agg #[.int .i64 a, .int .i64 b, .int .i64 f, .int .i64 c, .int .i64 m], .int .i64 s] w fun e w' => TimP w w' (timI a b f c m s) e := by
  cases hok : RP.ok ⟨a, b, f, c, m⟩
  · have HD := Lib.hid (show timI a b f c m s = ([], 2) by unfold timI; rw [if_neg (by rw [hok]; simp)])
    have HE := Lib.hid (show RP.e ⟨a, b, f, c, m⟩ = 2 by unfold RP.e; rw [if_neg (by rw [hok]; simp)])
    clear hok
    go_enter Tryd.func17, Tryd.ntmps17
    go_wp2_with fail
    refine (Check_any a b f c m _).mono ?_
    rintro e w1 ⟨rfl, hb⟩
    rw [HE.out]
    go_wp2_with fail
    go_ret2
    exact TimP.none HD.out rfl ((((Below.refl _ _).alloc (Nat.le_refl _) _).alloc (by simp) _).trans (hb.mono (by simp; omega)))
  · have HE := Lib.hid (show RP.e ⟨a, b, f, c, m⟩ = 0 by unfold RP.e; rw [if_pos hok])
    have HO := Lib.hid hok
    clear hok
    go_enter Tryd.func17, Tryd.ntmps17
    go_wp2_with fail
    refine (Check_any a b f c m _).mono ?_
    rintro e w1 ⟨rfl, hb⟩
    rw [HE.out]
    obtain ⟨hc1, hf1⟩ := bcell hb
    have hz1 := hb.size
    simp only [World.size_alloc] at hc1 hf1 hz1
    have q0 : w1.cell? ⟨w.heap.size, 0, none⟩ = some (.int .i64 a) := by rw [hc1 _ _ (by omega)]; go_simp
    have q1 : w1.cell? ⟨w.heap.size, 1, none⟩ = some (.int .i64 b) := by rw [hc1 _ _ (by omega)]; go_simp
    have q2 : w1.cell? ⟨w.heap.size, 2, none⟩ = some (.int .i64 f) := by rw [hc1 _ _ (by omega)]; go_simp
    have q3 : w1.cell? ⟨w.heap.size, 3, none⟩ = some (.int .i64 c) := by rw [hc1 _ _ (by omega)]; go_simp
    have q4 : w1.cell? ⟨w.heap.size, 4, none⟩ = some (.int .i64 m) := by rw [hc1 _ _ (by omega)]; go_simp
    have q5 : w1.cell? ⟨w.heap.size + 1, 0, none⟩ = some (.int .i64 s) := by rw [hc1 _ _ (by omega)]; go_simp
    have hw1 : Below w.heap.size w w1 := (((Below.refl _ _).alloc (Nat.le_refl _) _).alloc (by simp) _).trans (hb.mono (by simp; omega))
    clear hc1 hf1 hb
    have hz2 : w.heap.size < w1.heap.size := by omega
    have hz3 : w.heap.size + 1 < w1.heap.size := by omega
    by_cases ht : 0 ≤ s ∧ s ≤ 1073741824
    · have HD := Lib.hid (show timI a b f c m s = ((tmS b f c s m (a.toNat - 1)).1, 0) by unfold timI; rw [if_pos HO.out, if_pos ht])
      have HI := Lib.hid (inB_yes (n := s) (lo := 0) (hi := 1073741824) (by omega))
      obtain ⟨t1, t2⟩ := ht
      have HT := Lib.hid (And.intro hw1 (And.intro q5 q4))
      go_wp2_with fail
      refine (in_any _ _ _ _).mono ?_
      rintro e w2 ⟨rfl, rfl⟩
      rw [HI.out]
      go_wp2_with fail
      refine (delays_S a b f c m s (w1.heap.size + 1) (w.heap.size + 1) w.heap.size w.heap.size w1.heap.size 1 w _ HO.out t1 t2 (fun W h1 h2 => TS.new HT.out.1 hz3 HT.out.2.1 HT.out.2.2 rfl h1 h2) (by omega) (by simp) ⟨by omega, by omega⟩).mono ?_
      rintro e w2 ⟨g, cap, H, rfl, hts⟩
      have hcell := hts.cell
      have HTS := Lib.hid hts
      clear q0 q1 q2 q3 q4 q5 hts hw1
      go_wp2_with fail
      go_ret2
      rw [HD.out]
      exact ⟨_, rfl, HTS.out.own, HTS.out.low⟩
    · have HD := Lib.hid (show timI a b f c m s = ([], 2) by unfold timI; rw [if_pos HO.out, if_neg ht])
      have HI := Lib.hid (inB_no (n := s) (lo := 0) (hi := 1073741824) (by omega))
      go_wp2_with fail
      refine (in_any _ _ _ _).mono ?_
      rintro e w2 ⟨rfl, rfl⟩
      rw [HI.out]
      go_wp2_with fail
      go_ret2
      exact TimP.none HD.out rfl hw1
end Go.Proofs.YtefaojbfoboikaaDoor
