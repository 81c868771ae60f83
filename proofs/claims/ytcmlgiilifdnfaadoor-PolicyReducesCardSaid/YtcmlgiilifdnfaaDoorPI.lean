/- Covers: the program's and the reference's. -/
import Derived.Test.YtcmlgiilifdnfaaDoorPH
namespace Go.Proofs.YtcmlgiilifdnfaaDoor
open Go.RowKit
open Go.Sort (grow)

set_option maxHeartbeats 4000000 in
theorem Covers_any (a b : St) (va vb : Value) (w : World) (hva : StV w w.heap.size va a) (hza : SzSt a) (hvb : StV w w.heap.size vb b) (hzb : SzSt b) :
    Calls Tryd.prog 20 #[va, vb] w fun e w' => e = .returned (.bool (a.cv b)) ∧ Below w.heap.size w w' := by
  have HVA := Lib.hid hva
  have HVB := Lib.hid hvb
  have HZA := Lib.hid hza
  have HZB := Lib.hid hzb
  obtain ⟨A, c, A2, c2, rfl, ha1, ha2⟩ := hva
  obtain ⟨B, d, B2, d2, rfl, hb1, hb2⟩ := hvb
  have HA1 := Lib.hid ha1
  have HA2 := Lib.hid ha2
  have HB1 := Lib.hid hb1
  have HB2 := Lib.hid hb2
  clear ha1 ha2 hb1 hb2 hza hzb
  go_enter Tryd.func20, Tryd.ntmps20
  go_wp2_with fail
  refine (Check_any a _ _ (HVA.out.on (size_new2 w _ _)) HZA.out).mono ?_
  rintro e w11 ⟨rfl, hb⟩
  have ba : Blk w11 (w.heap.size) 31 #[.bool a.al, .slice A a.ac.length c, .slice A2 a.re.length c2] := ((Blk.new _ _ _).alloc _).on hb
  have bb : Blk w11 (w.heap.size + 1) 31 #[.bool b.al, .slice B b.ac.length d, .slice B2 b.re.length d2] := (Blk.new1 _ _ _ _).on hb
  have hbz := hb.size
  have HB11 := Lib.hid ((((Below.refl w.heap.size w).alloc (by first | exact Nat.le_refl _ | omega | (simp; done) | (simp; omega)) _).alloc (by first | exact Nat.le_refl _ | omega | (simp; done) | (simp; omega)) _).trans (hb.mono (by first | exact Nat.le_refl _ | omega | (simp; done) | (simp; omega))))
  have hz11 : w.heap.size ≤ w11.heap.size := HB11.out.size
  clear hb hbz
  rcases ck_cases a with hc | hc | hc
  · have HCa := Lib.hid hc
    rw [hc]
    clear hc
    have q_ba0 : w11.cell? ⟨w.heap.size, 0, none⟩ = some (.bool a.al) := ba.cell 0
    have q_ba1 : w11.cell? ⟨w.heap.size, 1, none⟩ = some (.slice A a.ac.length c) := ba.cell 1
    have q_ba2 : w11.cell? ⟨w.heap.size, 2, none⟩ = some (.slice A2 a.re.length c2) := ba.cell 2
    have q_bb0 : w11.cell? ⟨w.heap.size + 1, 0, none⟩ = some (.bool b.al) := bb.cell 0
    have q_bb1 : w11.cell? ⟨w.heap.size + 1, 1, none⟩ = some (.slice B b.ac.length d) := bb.cell 1
    have q_bb2 : w11.cell? ⟨w.heap.size + 1, 2, none⟩ = some (.slice B2 b.re.length d2) := bb.cell 2
    go_wp2_with fail
    refine (Check_any b _ _ (HVB.out.on HB11.out) HZB.out).mono ?_
    rintro e w12 ⟨rfl, hb⟩
    clear q_ba0 q_ba1 q_ba2 q_bb0 q_bb1 q_bb2
    have ba : Blk w12 (w.heap.size) 31 #[.bool a.al, .slice A a.ac.length c, .slice A2 a.re.length c2] := (ba).on hb
    have bb : Blk w12 (w.heap.size + 1) 31 #[.bool b.al, .slice B b.ac.length d, .slice B2 b.re.length d2] := (bb).on hb
    have hbz := hb.size
    have HB12 := Lib.hid ((HB11.out).trans (hb.mono (by first | exact Nat.le_refl _ | omega | (simp; done) | (simp; omega))))
    have hz12 : w.heap.size ≤ w12.heap.size := HB12.out.size
    clear hb hbz
    rcases ck_cases b with hc | hc | hc
    · have HCb := Lib.hid hc
      rw [hc]
      clear hc
      cases hab : (a.al == b.al)
      · have q_ba0 : w12.cell? ⟨w.heap.size, 0, none⟩ = some (.bool a.al) := ba.cell 0
        have q_ba1 : w12.cell? ⟨w.heap.size, 1, none⟩ = some (.slice A a.ac.length c) := ba.cell 1
        have q_ba2 : w12.cell? ⟨w.heap.size, 2, none⟩ = some (.slice A2 a.re.length c2) := ba.cell 2
        have q_bb0 : w12.cell? ⟨w.heap.size + 1, 0, none⟩ = some (.bool b.al) := bb.cell 0
        have q_bb1 : w12.cell? ⟨w.heap.size + 1, 1, none⟩ = some (.slice B b.ac.length d) := bb.cell 1
        have q_bb2 : w12.cell? ⟨w.heap.size + 1, 2, none⟩ = some (.slice B2 b.re.length d2) := bb.cell 2
        have HD := Lib.hid (cv_3 hab)
        go_wp2_with fail
        go_ret
        exact ⟨ret_bool HD.out, HB12.out⟩
      · have q_ba0 : w12.cell? ⟨w.heap.size, 0, none⟩ = some (.bool a.al) := ba.cell 0
        have q_ba1 : w12.cell? ⟨w.heap.size, 1, none⟩ = some (.slice A a.ac.length c) := ba.cell 1
        have q_ba2 : w12.cell? ⟨w.heap.size, 2, none⟩ = some (.slice A2 a.re.length c2) := ba.cell 2
        have q_bb0 : w12.cell? ⟨w.heap.size + 1, 0, none⟩ = some (.bool b.al) := bb.cell 0
        have q_bb1 : w12.cell? ⟨w.heap.size + 1, 1, none⟩ = some (.slice B b.ac.length d) := bb.cell 1
        have q_bb2 : w12.cell? ⟨w.heap.size + 1, 2, none⟩ = some (.slice B2 b.re.length d2) := bb.cell 2
        have HAB := Lib.hid hab
        go_wp2_with fail
        refine (within_any B d b.ac A c a.ac _ (HB1.out.on HB12.out) HZB.out.1 HZB.out.2.2.1 (HA1.out.on HB12.out) HZA.out.1 HZA.out.2.2.1).mono ?_
        rintro e w13 ⟨rfl, hb⟩
        clear q_ba0 q_ba1 q_ba2 q_bb0 q_bb1 q_bb2
        have ba : Blk w13 (w.heap.size) 31 #[.bool a.al, .slice A a.ac.length c, .slice A2 a.re.length c2] := (ba).on hb
        have bb : Blk w13 (w.heap.size + 1) 31 #[.bool b.al, .slice B b.ac.length d, .slice B2 b.re.length d2] := (bb).on hb
        have hbz := hb.size
        have HB13 := Lib.hid ((HB12.out).trans (hb.mono (by first | exact Nat.le_refl _ | omega | (simp; done) | (simp; omega))))
        have hz13 : w.heap.size ≤ w13.heap.size := HB13.out.size
        clear hb hbz
        clear hab
        cases hw : wit b.ac a.ac
        · have q_ba0 : w13.cell? ⟨w.heap.size, 0, none⟩ = some (.bool a.al) := ba.cell 0
          have q_ba1 : w13.cell? ⟨w.heap.size, 1, none⟩ = some (.slice A a.ac.length c) := ba.cell 1
          have q_ba2 : w13.cell? ⟨w.heap.size, 2, none⟩ = some (.slice A2 a.re.length c2) := ba.cell 2
          have q_bb0 : w13.cell? ⟨w.heap.size + 1, 0, none⟩ = some (.bool b.al) := bb.cell 0
          have q_bb1 : w13.cell? ⟨w.heap.size + 1, 1, none⟩ = some (.slice B b.ac.length d) := bb.cell 1
          have q_bb2 : w13.cell? ⟨w.heap.size + 1, 2, none⟩ = some (.slice B2 b.re.length d2) := bb.cell 2
          have HD := Lib.hid (cv_4 (a := a) (b := b) hw)
          clear hw
          go_wp2_with fail
          go_ret
          exact ⟨ret_bool HD.out, HB13.out⟩
        · have q_ba0 : w13.cell? ⟨w.heap.size, 0, none⟩ = some (.bool a.al) := ba.cell 0
          have q_ba1 : w13.cell? ⟨w.heap.size, 1, none⟩ = some (.slice A a.ac.length c) := ba.cell 1
          have q_ba2 : w13.cell? ⟨w.heap.size, 2, none⟩ = some (.slice A2 a.re.length c2) := ba.cell 2
          have q_bb0 : w13.cell? ⟨w.heap.size + 1, 0, none⟩ = some (.bool b.al) := bb.cell 0
          have q_bb1 : w13.cell? ⟨w.heap.size + 1, 1, none⟩ = some (.slice B b.ac.length d) := bb.cell 1
          have q_bb2 : w13.cell? ⟨w.heap.size + 1, 2, none⟩ = some (.slice B2 b.re.length d2) := bb.cell 2
          have HD := Lib.hid (cv_5 HCa.out HCb.out HAB.out hw)
          clear hw
          go_wp2_with fail
          refine (within_any B2 d2 b.re A2 c2 a.re _ (HB2.out.on HB13.out) HZB.out.2.1 HZB.out.2.2.2 (HA2.out.on HB13.out) HZA.out.2.1 HZA.out.2.2.2).mono ?_
          rintro e w14 ⟨rfl, hb⟩
          clear q_ba0 q_ba1 q_ba2 q_bb0 q_bb1 q_bb2
          have ba : Blk w14 (w.heap.size) 31 #[.bool a.al, .slice A a.ac.length c, .slice A2 a.re.length c2] := (ba).on hb
          have bb : Blk w14 (w.heap.size + 1) 31 #[.bool b.al, .slice B b.ac.length d, .slice B2 b.re.length d2] := (bb).on hb
          have hbz := hb.size
          have HB14 := Lib.hid ((HB13.out).trans (hb.mono (by first | exact Nat.le_refl _ | omega | (simp; done) | (simp; omega))))
          have hz14 : w.heap.size ≤ w14.heap.size := HB14.out.size
          clear hb hbz
          go_wp2_with fail
          go_ret
          exact ⟨ret_bool HD.out, HB14.out⟩
    · have q_ba0 : w12.cell? ⟨w.heap.size, 0, none⟩ = some (.bool a.al) := ba.cell 0
      have q_ba1 : w12.cell? ⟨w.heap.size, 1, none⟩ = some (.slice A a.ac.length c) := ba.cell 1
      have q_ba2 : w12.cell? ⟨w.heap.size, 2, none⟩ = some (.slice A2 a.re.length c2) := ba.cell 2
      have q_bb0 : w12.cell? ⟨w.heap.size + 1, 0, none⟩ = some (.bool b.al) := bb.cell 0
      have q_bb1 : w12.cell? ⟨w.heap.size + 1, 1, none⟩ = some (.slice B b.ac.length d) := bb.cell 1
      have q_bb2 : w12.cell? ⟨w.heap.size + 1, 2, none⟩ = some (.slice B2 b.re.length d2) := bb.cell 2
      have HD := Lib.hid (cv_2 (a := a) (b := b) (show b.ck ≠ 0 by omega))
      rw [hc]
      clear hc
      go_wp2_with fail
      go_ret
      exact ⟨ret_bool HD.out, HB12.out⟩
    · have q_ba0 : w12.cell? ⟨w.heap.size, 0, none⟩ = some (.bool a.al) := ba.cell 0
      have q_ba1 : w12.cell? ⟨w.heap.size, 1, none⟩ = some (.slice A a.ac.length c) := ba.cell 1
      have q_ba2 : w12.cell? ⟨w.heap.size, 2, none⟩ = some (.slice A2 a.re.length c2) := ba.cell 2
      have q_bb0 : w12.cell? ⟨w.heap.size + 1, 0, none⟩ = some (.bool b.al) := bb.cell 0
      have q_bb1 : w12.cell? ⟨w.heap.size + 1, 1, none⟩ = some (.slice B b.ac.length d) := bb.cell 1
      have q_bb2 : w12.cell? ⟨w.heap.size + 1, 2, none⟩ = some (.slice B2 b.re.length d2) := bb.cell 2
      have HD := Lib.hid (cv_2 (a := a) (b := b) (show b.ck ≠ 0 by omega))
      rw [hc]
      clear hc
      go_wp2_with fail
      go_ret
      exact ⟨ret_bool HD.out, HB12.out⟩
  · have q_ba0 : w11.cell? ⟨w.heap.size, 0, none⟩ = some (.bool a.al) := ba.cell 0
    have q_ba1 : w11.cell? ⟨w.heap.size, 1, none⟩ = some (.slice A a.ac.length c) := ba.cell 1
    have q_ba2 : w11.cell? ⟨w.heap.size, 2, none⟩ = some (.slice A2 a.re.length c2) := ba.cell 2
    have q_bb0 : w11.cell? ⟨w.heap.size + 1, 0, none⟩ = some (.bool b.al) := bb.cell 0
    have q_bb1 : w11.cell? ⟨w.heap.size + 1, 1, none⟩ = some (.slice B b.ac.length d) := bb.cell 1
    have q_bb2 : w11.cell? ⟨w.heap.size + 1, 2, none⟩ = some (.slice B2 b.re.length d2) := bb.cell 2
    have HD := Lib.hid (cv_1 (a := a) (b := b) (show a.ck ≠ 0 by omega))
    rw [hc]
    clear hc
    go_wp2_with fail
    go_ret
    exact ⟨ret_bool HD.out, HB11.out⟩
  · have q_ba0 : w11.cell? ⟨w.heap.size, 0, none⟩ = some (.bool a.al) := ba.cell 0
    have q_ba1 : w11.cell? ⟨w.heap.size, 1, none⟩ = some (.slice A a.ac.length c) := ba.cell 1
    have q_ba2 : w11.cell? ⟨w.heap.size, 2, none⟩ = some (.slice A2 a.re.length c2) := ba.cell 2
    have q_bb0 : w11.cell? ⟨w.heap.size + 1, 0, none⟩ = some (.bool b.al) := bb.cell 0
    have q_bb1 : w11.cell? ⟨w.heap.size + 1, 1, none⟩ = some (.slice B b.ac.length d) := bb.cell 1
    have q_bb2 : w11.cell? ⟨w.heap.size + 1, 2, none⟩ = some (.slice B2 b.re.length d2) := bb.cell 2
    have HD := Lib.hid (cv_1 (a := a) (b := b) (show a.ck ≠ 0 by omega))
    rw [hc]
    clear hc
    go_wp2_with fail
    go_ret
    exact ⟨ret_bool HD.out, HB11.out⟩
set_option maxHeartbeats 4000000 in
theorem rCovers_any (a b : St) (va vb : Value) (w : World) (hva : StV w w.heap.size va a) (hza : SzSt a) (hvb : StV w w.heap.size vb b) (hzb : SzSt b) :
    Calls Tryd.prog 21 #[va, vb] w fun e w' => e = .returned (.bool (a.cv b)) ∧ Below w.heap.size w w' := by
  have HVA := Lib.hid hva
  have HVB := Lib.hid hvb
  have HZA := Lib.hid hza
  have HZB := Lib.hid hzb
  obtain ⟨A, c, A2, c2, rfl, ha1, ha2⟩ := hva
  obtain ⟨B, d, B2, d2, rfl, hb1, hb2⟩ := hvb
  have HA1 := Lib.hid ha1
  have HA2 := Lib.hid ha2
  have HB1 := Lib.hid hb1
  have HB2 := Lib.hid hb2
  clear ha1 ha2 hb1 hb2 hza hzb
  go_enter Tryd.func21, Tryd.ntmps21
  go_wp2_with fail
  refine (rCheck_any a _ _ (HVA.out.on (size_new2 w _ _)) HZA.out).mono ?_
  rintro e w11 ⟨rfl, hb⟩
  have ba : Blk w11 (w.heap.size) 31 #[.bool a.al, .slice A a.ac.length c, .slice A2 a.re.length c2] := ((Blk.new _ _ _).alloc _).on hb
  have bb : Blk w11 (w.heap.size + 1) 31 #[.bool b.al, .slice B b.ac.length d, .slice B2 b.re.length d2] := (Blk.new1 _ _ _ _).on hb
  have hbz := hb.size
  have HB11 := Lib.hid ((((Below.refl w.heap.size w).alloc (by first | exact Nat.le_refl _ | omega | (simp; done) | (simp; omega)) _).alloc (by first | exact Nat.le_refl _ | omega | (simp; done) | (simp; omega)) _).trans (hb.mono (by first | exact Nat.le_refl _ | omega | (simp; done) | (simp; omega))))
  have hz11 : w.heap.size ≤ w11.heap.size := HB11.out.size
  clear hb hbz
  rcases ck_cases a with hc | hc | hc
  · have HCa := Lib.hid hc
    rw [hc]
    clear hc
    have q_ba0 : w11.cell? ⟨w.heap.size, 0, none⟩ = some (.bool a.al) := ba.cell 0
    have q_ba1 : w11.cell? ⟨w.heap.size, 1, none⟩ = some (.slice A a.ac.length c) := ba.cell 1
    have q_ba2 : w11.cell? ⟨w.heap.size, 2, none⟩ = some (.slice A2 a.re.length c2) := ba.cell 2
    have q_bb0 : w11.cell? ⟨w.heap.size + 1, 0, none⟩ = some (.bool b.al) := bb.cell 0
    have q_bb1 : w11.cell? ⟨w.heap.size + 1, 1, none⟩ = some (.slice B b.ac.length d) := bb.cell 1
    have q_bb2 : w11.cell? ⟨w.heap.size + 1, 2, none⟩ = some (.slice B2 b.re.length d2) := bb.cell 2
    go_wp2_with fail
    refine (rCheck_any b _ _ (HVB.out.on HB11.out) HZB.out).mono ?_
    rintro e w12 ⟨rfl, hb⟩
    clear q_ba0 q_ba1 q_ba2 q_bb0 q_bb1 q_bb2
    have ba : Blk w12 (w.heap.size) 31 #[.bool a.al, .slice A a.ac.length c, .slice A2 a.re.length c2] := (ba).on hb
    have bb : Blk w12 (w.heap.size + 1) 31 #[.bool b.al, .slice B b.ac.length d, .slice B2 b.re.length d2] := (bb).on hb
    have hbz := hb.size
    have HB12 := Lib.hid ((HB11.out).trans (hb.mono (by first | exact Nat.le_refl _ | omega | (simp; done) | (simp; omega))))
    have hz12 : w.heap.size ≤ w12.heap.size := HB12.out.size
    clear hb hbz
    rcases ck_cases b with hc | hc | hc
    · have HCb := Lib.hid hc
      rw [hc]
      clear hc
      cases hab : (a.al == b.al)
      · have q_ba0 : w12.cell? ⟨w.heap.size, 0, none⟩ = some (.bool a.al) := ba.cell 0
        have q_ba1 : w12.cell? ⟨w.heap.size, 1, none⟩ = some (.slice A a.ac.length c) := ba.cell 1
        have q_ba2 : w12.cell? ⟨w.heap.size, 2, none⟩ = some (.slice A2 a.re.length c2) := ba.cell 2
        have q_bb0 : w12.cell? ⟨w.heap.size + 1, 0, none⟩ = some (.bool b.al) := bb.cell 0
        have q_bb1 : w12.cell? ⟨w.heap.size + 1, 1, none⟩ = some (.slice B b.ac.length d) := bb.cell 1
        have q_bb2 : w12.cell? ⟨w.heap.size + 1, 2, none⟩ = some (.slice B2 b.re.length d2) := bb.cell 2
        have HD := Lib.hid (cv_3 hab)
        go_wp2_with fail
        go_ret
        exact ⟨ret_bool HD.out, HB12.out⟩
      · have q_ba0 : w12.cell? ⟨w.heap.size, 0, none⟩ = some (.bool a.al) := ba.cell 0
        have q_ba1 : w12.cell? ⟨w.heap.size, 1, none⟩ = some (.slice A a.ac.length c) := ba.cell 1
        have q_ba2 : w12.cell? ⟨w.heap.size, 2, none⟩ = some (.slice A2 a.re.length c2) := ba.cell 2
        have q_bb0 : w12.cell? ⟨w.heap.size + 1, 0, none⟩ = some (.bool b.al) := bb.cell 0
        have q_bb1 : w12.cell? ⟨w.heap.size + 1, 1, none⟩ = some (.slice B b.ac.length d) := bb.cell 1
        have q_bb2 : w12.cell? ⟨w.heap.size + 1, 2, none⟩ = some (.slice B2 b.re.length d2) := bb.cell 2
        have HAB := Lib.hid hab
        go_wp2_with fail
        refine (all_any A c a.ac B d b.ac _ (HA1.out.on HB12.out) HZA.out.1 HZA.out.2.2.1 (HB1.out.on HB12.out) HZB.out.1 HZB.out.2.2.1).mono ?_
        rintro e w13 ⟨rfl, hb⟩
        clear q_ba0 q_ba1 q_ba2 q_bb0 q_bb1 q_bb2
        have ba : Blk w13 (w.heap.size) 31 #[.bool a.al, .slice A a.ac.length c, .slice A2 a.re.length c2] := (ba).on hb
        have bb : Blk w13 (w.heap.size + 1) 31 #[.bool b.al, .slice B b.ac.length d, .slice B2 b.re.length d2] := (bb).on hb
        have hbz := hb.size
        have HB13 := Lib.hid ((HB12.out).trans (hb.mono (by first | exact Nat.le_refl _ | omega | (simp; done) | (simp; omega))))
        have hz13 : w.heap.size ≤ w13.heap.size := HB13.out.size
        clear hb hbz
        clear hab
        cases hw : wit b.ac a.ac
        · have q_ba0 : w13.cell? ⟨w.heap.size, 0, none⟩ = some (.bool a.al) := ba.cell 0
          have q_ba1 : w13.cell? ⟨w.heap.size, 1, none⟩ = some (.slice A a.ac.length c) := ba.cell 1
          have q_ba2 : w13.cell? ⟨w.heap.size, 2, none⟩ = some (.slice A2 a.re.length c2) := ba.cell 2
          have q_bb0 : w13.cell? ⟨w.heap.size + 1, 0, none⟩ = some (.bool b.al) := bb.cell 0
          have q_bb1 : w13.cell? ⟨w.heap.size + 1, 1, none⟩ = some (.slice B b.ac.length d) := bb.cell 1
          have q_bb2 : w13.cell? ⟨w.heap.size + 1, 2, none⟩ = some (.slice B2 b.re.length d2) := bb.cell 2
          have HD := Lib.hid (cv_4 (a := a) (b := b) hw)
          clear hw
          go_wp2_with fail
          go_ret
          exact ⟨ret_bool HD.out, HB13.out⟩
        · have q_ba0 : w13.cell? ⟨w.heap.size, 0, none⟩ = some (.bool a.al) := ba.cell 0
          have q_ba1 : w13.cell? ⟨w.heap.size, 1, none⟩ = some (.slice A a.ac.length c) := ba.cell 1
          have q_ba2 : w13.cell? ⟨w.heap.size, 2, none⟩ = some (.slice A2 a.re.length c2) := ba.cell 2
          have q_bb0 : w13.cell? ⟨w.heap.size + 1, 0, none⟩ = some (.bool b.al) := bb.cell 0
          have q_bb1 : w13.cell? ⟨w.heap.size + 1, 1, none⟩ = some (.slice B b.ac.length d) := bb.cell 1
          have q_bb2 : w13.cell? ⟨w.heap.size + 1, 2, none⟩ = some (.slice B2 b.re.length d2) := bb.cell 2
          have HD := Lib.hid (cv_5 HCa.out HCb.out HAB.out hw)
          clear hw
          go_wp2_with fail
          refine (all_any A2 c2 a.re B2 d2 b.re _ (HA2.out.on HB13.out) HZA.out.2.1 HZA.out.2.2.2 (HB2.out.on HB13.out) HZB.out.2.1 HZB.out.2.2.2).mono ?_
          rintro e w14 ⟨rfl, hb⟩
          clear q_ba0 q_ba1 q_ba2 q_bb0 q_bb1 q_bb2
          have ba : Blk w14 (w.heap.size) 31 #[.bool a.al, .slice A a.ac.length c, .slice A2 a.re.length c2] := (ba).on hb
          have bb : Blk w14 (w.heap.size + 1) 31 #[.bool b.al, .slice B b.ac.length d, .slice B2 b.re.length d2] := (bb).on hb
          have hbz := hb.size
          have HB14 := Lib.hid ((HB13.out).trans (hb.mono (by first | exact Nat.le_refl _ | omega | (simp; done) | (simp; omega))))
          have hz14 : w.heap.size ≤ w14.heap.size := HB14.out.size
          clear hb hbz
          go_wp2_with fail
          go_ret
          exact ⟨ret_bool HD.out, HB14.out⟩
    · have q_ba0 : w12.cell? ⟨w.heap.size, 0, none⟩ = some (.bool a.al) := ba.cell 0
      have q_ba1 : w12.cell? ⟨w.heap.size, 1, none⟩ = some (.slice A a.ac.length c) := ba.cell 1
      have q_ba2 : w12.cell? ⟨w.heap.size, 2, none⟩ = some (.slice A2 a.re.length c2) := ba.cell 2
      have q_bb0 : w12.cell? ⟨w.heap.size + 1, 0, none⟩ = some (.bool b.al) := bb.cell 0
      have q_bb1 : w12.cell? ⟨w.heap.size + 1, 1, none⟩ = some (.slice B b.ac.length d) := bb.cell 1
      have q_bb2 : w12.cell? ⟨w.heap.size + 1, 2, none⟩ = some (.slice B2 b.re.length d2) := bb.cell 2
      have HD := Lib.hid (cv_2 (a := a) (b := b) (show b.ck ≠ 0 by omega))
      rw [hc]
      clear hc
      go_wp2_with fail
      go_ret
      exact ⟨ret_bool HD.out, HB12.out⟩
    · have q_ba0 : w12.cell? ⟨w.heap.size, 0, none⟩ = some (.bool a.al) := ba.cell 0
      have q_ba1 : w12.cell? ⟨w.heap.size, 1, none⟩ = some (.slice A a.ac.length c) := ba.cell 1
      have q_ba2 : w12.cell? ⟨w.heap.size, 2, none⟩ = some (.slice A2 a.re.length c2) := ba.cell 2
      have q_bb0 : w12.cell? ⟨w.heap.size + 1, 0, none⟩ = some (.bool b.al) := bb.cell 0
      have q_bb1 : w12.cell? ⟨w.heap.size + 1, 1, none⟩ = some (.slice B b.ac.length d) := bb.cell 1
      have q_bb2 : w12.cell? ⟨w.heap.size + 1, 2, none⟩ = some (.slice B2 b.re.length d2) := bb.cell 2
      have HD := Lib.hid (cv_2 (a := a) (b := b) (show b.ck ≠ 0 by omega))
      rw [hc]
      clear hc
      go_wp2_with fail
      go_ret
      exact ⟨ret_bool HD.out, HB12.out⟩
  · have q_ba0 : w11.cell? ⟨w.heap.size, 0, none⟩ = some (.bool a.al) := ba.cell 0
    have q_ba1 : w11.cell? ⟨w.heap.size, 1, none⟩ = some (.slice A a.ac.length c) := ba.cell 1
    have q_ba2 : w11.cell? ⟨w.heap.size, 2, none⟩ = some (.slice A2 a.re.length c2) := ba.cell 2
    have q_bb0 : w11.cell? ⟨w.heap.size + 1, 0, none⟩ = some (.bool b.al) := bb.cell 0
    have q_bb1 : w11.cell? ⟨w.heap.size + 1, 1, none⟩ = some (.slice B b.ac.length d) := bb.cell 1
    have q_bb2 : w11.cell? ⟨w.heap.size + 1, 2, none⟩ = some (.slice B2 b.re.length d2) := bb.cell 2
    have HD := Lib.hid (cv_1 (a := a) (b := b) (show a.ck ≠ 0 by omega))
    rw [hc]
    clear hc
    go_wp2_with fail
    go_ret
    exact ⟨ret_bool HD.out, HB11.out⟩
  · have q_ba0 : w11.cell? ⟨w.heap.size, 0, none⟩ = some (.bool a.al) := ba.cell 0
    have q_ba1 : w11.cell? ⟨w.heap.size, 1, none⟩ = some (.slice A a.ac.length c) := ba.cell 1
    have q_ba2 : w11.cell? ⟨w.heap.size, 2, none⟩ = some (.slice A2 a.re.length c2) := ba.cell 2
    have q_bb0 : w11.cell? ⟨w.heap.size + 1, 0, none⟩ = some (.bool b.al) := bb.cell 0
    have q_bb1 : w11.cell? ⟨w.heap.size + 1, 1, none⟩ = some (.slice B b.ac.length d) := bb.cell 1
    have q_bb2 : w11.cell? ⟨w.heap.size + 1, 2, none⟩ = some (.slice B2 b.re.length d2) := bb.cell 2
    have HD := Lib.hid (cv_1 (a := a) (b := b) (show a.ck ≠ 0 by omega))
    rw [hc]
    clear hc
    go_wp2_with fail
    go_ret
    exact ⟨ret_bool HD.out, HB11.out⟩
end Go.Proofs.YtcmlgiilifdnfaaDoor
