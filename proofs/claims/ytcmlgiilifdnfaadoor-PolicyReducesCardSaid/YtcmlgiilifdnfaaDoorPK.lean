/- Decide: the program's and the reference's. -/
import Derived.Test.YtcmlgiilifdnfaaDoorPJ
namespace Go.Proofs.YtcmlgiilifdnfaaDoor
open Go.RowKit
open Go.Sort (grow)

theorem dd_1 {s : St} {x : Bool} {a r : ByteArray} (h : (s.al == x) = false) : false = (s.al == x && s.mt a r) := by rw [h]; rfl
theorem dd_2 {s : St} {x : Bool} {a r : ByteArray} (h : s.ck ≠ 0) : false = (s.al == x && s.mt a r) := by unfold St.mt; rw [nok_of h]; simp
theorem dd_3 {s : St} {x : Bool} {a r : ByteArray} (h : anyM s.ac a = false) : false = (s.al == x && s.mt a r) := by unfold St.mt; rw [h]; simp
theorem dd_4 {s : St} {x : Bool} {a r : ByteArray} (h1 : (s.al == x) = true) (h2 : s.ck = 0) (h : anyM s.ac a = true) : anyM s.re r = (s.al == x && s.mt a r) := by
  unfold St.mt; rw [h1, ok_of h2, h]; simp
theorem mm_2 {s : St} {a r : ByteArray} (h : s.ck ≠ 0) : false = s.mt a r := by unfold St.mt; rw [nok_of h]; simp
theorem mm_3 {s : St} {a r : ByteArray} (h : anyM s.ac a = false) : false = s.mt a r := by unfold St.mt; rw [h]; simp
theorem mm_4 {s : St} {a r : ByteArray} (h2 : s.ck = 0) (h : anyM s.ac a = true) : anyM s.re r = s.mt a r := by unfold St.mt; rw [ok_of h2, h]; simp
def aggD (x : Bool × Int) : Value := .agg #[.bool x.1, .int .i64 x.2]
theorem ret_aggD {x : Bool × Int} {a : Bool} {b : Int} (h : x = (a, b)) : Ending.returned (.agg #[.bool a, .int .i64 b]) = .returned (aggD x) := by subst h; rfl
theorem decS_yes {l : List St} {a r : ByteArray} (h : 0 ≤ firI l false a r) : decS l a r = (false, firI l false a r) := by unfold decS; rw [if_pos h]
theorem decS_no {l : List St} {a r : ByteArray} (h : firI l false a r < 0) : decS l a r = (decide (0 ≤ firI l true a r), firI l true a r) := by unfold decS; rw [if_neg (by omega)]
set_option maxHeartbeats 4000000 in
theorem dec11_any (gx ga gr : Nat) (x : Bool) (a r : ByteArray) (s : St) (v : Value) (w : World) (bx : Blk w gx 4 #[.bool x]) (ba : Blk w ga 9 #[.string a]) (br : Blk w gr 9 #[.string r]) (hv : StV w w.heap.size v s) (hz : SzSt s) (ha : a.size ≤ 9223372036854775807) (hr : r.size ≤ 9223372036854775807) :
    Calls Tryd.prog 29 #[v, .pointer (some ⟨gx, 0, none⟩), .pointer (some ⟨ga, 0, none⟩), .pointer (some ⟨gr, 0, none⟩)] w fun e w' => e = .returned (.bool (s.al == x && s.mt a r)) ∧ Below w.heap.size w w' := by
  have HV := Lib.hid hv
  have HZ := Lib.hid hz
  have HA := Lib.hid ha
  have HR := Lib.hid hr
  obtain ⟨A, c, A2, c2, rfl, h1, h2⟩ := hv
  have HL1 := Lib.hid h1
  have HL2 := Lib.hid h2
  clear h1 h2 hz ha hr
  have lx := bx.lt
  have la := ba.lt
  have lr := br.lt
  have q_bx0 : w.cell? ⟨gx, 0, none⟩ = some (.bool x) := bx.cell 0
  have q_ba0 : w.cell? ⟨ga, 0, none⟩ = some (.string a) := ba.cell 0
  have q_br0 : w.cell? ⟨gr, 0, none⟩ = some (.string r) := br.cell 0
  obtain ⟨qq, hx⟩ : ∃ q, (s.al == x) = q := ⟨_, rfl⟩
  cases qq
  · have HD := Lib.hid (dd_1 (a := a) (r := r) hx)
    have qx' : (w.alloc (.cells #[.bool s.al, .slice A s.ac.length c, .slice A2 s.re.length c2] 31)).cell? ⟨gx, 0, none⟩ = some (.bool x) := (bx.alloc _).cell 0
    have qa' : (w.alloc (.cells #[.bool s.al, .slice A s.ac.length c, .slice A2 s.re.length c2] 31)).cell? ⟨ga, 0, none⟩ = some (.string a) := (ba.alloc _).cell 0
    have qr' : (w.alloc (.cells #[.bool s.al, .slice A s.ac.length c, .slice A2 s.re.length c2] 31)).cell? ⟨gr, 0, none⟩ = some (.string r) := (br.alloc _).cell 0
    go_enter Tryd.func29, Tryd.ntmps29
    go_wp2_with fail
    go_ret
    exact ⟨ret_bool HD.out, (Below.refl w.heap.size w).alloc (by first | exact Nat.le_refl _ | omega | (simp; done) | (simp; omega)) _⟩
  · have HX := Lib.hid hx
    have qx' : (w.alloc (.cells #[.bool s.al, .slice A s.ac.length c, .slice A2 s.re.length c2] 31)).cell? ⟨gx, 0, none⟩ = some (.bool x) := (bx.alloc _).cell 0
    have qa' : (w.alloc (.cells #[.bool s.al, .slice A s.ac.length c, .slice A2 s.re.length c2] 31)).cell? ⟨ga, 0, none⟩ = some (.string a) := (ba.alloc _).cell 0
    have qr' : (w.alloc (.cells #[.bool s.al, .slice A s.ac.length c, .slice A2 s.re.length c2] 31)).cell? ⟨gr, 0, none⟩ = some (.string r) := (br.alloc _).cell 0
    go_enter Tryd.func29, Tryd.ntmps29
    go_wp2_with fail
    refine (Check_any s _ _ (HV.out.on (size_new _ _)) HZ.out).mono ?_
    rintro e w11 ⟨rfl, hb⟩
    clear q_bx0 q_ba0 q_br0 qx' qa' qr'
    have bx : Blk w11 (gx) 4 #[.bool x] := ((bx).alloc _).on hb
    have ba : Blk w11 (ga) 9 #[.string a] := ((ba).alloc _).on hb
    have br : Blk w11 (gr) 9 #[.string r] := ((br).alloc _).on hb
    have bs : Blk w11 (w.heap.size) 31 #[.bool s.al, .slice A s.ac.length c, .slice A2 s.re.length c2] := (Blk.new _ _ _).on hb
    have hbz := hb.size
    have HB11 := Lib.hid (((Below.refl w.heap.size w).alloc (by first | exact Nat.le_refl _ | omega | (simp; done) | (simp; omega)) _).trans (hb.mono (by first | exact Nat.le_refl _ | omega | (simp; done) | (simp; omega))))
    have hz11 : w.heap.size ≤ w11.heap.size := HB11.out.size
    clear hb hbz
    rcases ck_cases s with hc | hc | hc
    · have HC := Lib.hid hc
      rw [hc]
      clear hc
      have q_bx0 : w11.cell? ⟨gx, 0, none⟩ = some (.bool x) := bx.cell 0
      have q_ba0 : w11.cell? ⟨ga, 0, none⟩ = some (.string a) := ba.cell 0
      have q_br0 : w11.cell? ⟨gr, 0, none⟩ = some (.string r) := br.cell 0
      have q_bs0 : w11.cell? ⟨w.heap.size, 0, none⟩ = some (.bool s.al) := bs.cell 0
      have q_bs1 : w11.cell? ⟨w.heap.size, 1, none⟩ = some (.slice A s.ac.length c) := bs.cell 1
      have q_bs2 : w11.cell? ⟨w.heap.size, 2, none⟩ = some (.slice A2 s.re.length c2) := bs.cell 2
      go_wp2_with fail
      refine (some_any A c s.ac a _ (HL1.out.on HB11.out) HZ.out.1 HZ.out.2.2.1 HA.out).mono ?_
      rintro e w12 ⟨rfl, hb⟩
      clear q_bx0 q_ba0 q_br0 q_bs0 q_bs1 q_bs2
      have bx : Blk w12 (gx) 4 #[.bool x] := (bx).on hb
      have ba : Blk w12 (ga) 9 #[.string a] := (ba).on hb
      have br : Blk w12 (gr) 9 #[.string r] := (br).on hb
      have bs : Blk w12 (w.heap.size) 31 #[.bool s.al, .slice A s.ac.length c, .slice A2 s.re.length c2] := (bs).on hb
      have hbz := hb.size
      have HB12 := Lib.hid ((HB11.out).trans (hb.mono (by first | exact Nat.le_refl _ | omega | (simp; done) | (simp; omega))))
      have hz12 : w.heap.size ≤ w12.heap.size := HB12.out.size
      clear hb hbz
      cases hm : anyM s.ac a
      · have q_bx0 : w12.cell? ⟨gx, 0, none⟩ = some (.bool x) := bx.cell 0
        have q_ba0 : w12.cell? ⟨ga, 0, none⟩ = some (.string a) := ba.cell 0
        have q_br0 : w12.cell? ⟨gr, 0, none⟩ = some (.string r) := br.cell 0
        have q_bs0 : w12.cell? ⟨w.heap.size, 0, none⟩ = some (.bool s.al) := bs.cell 0
        have q_bs1 : w12.cell? ⟨w.heap.size, 1, none⟩ = some (.slice A s.ac.length c) := bs.cell 1
        have q_bs2 : w12.cell? ⟨w.heap.size, 2, none⟩ = some (.slice A2 s.re.length c2) := bs.cell 2
        have HD := Lib.hid (dd_3 (x := x) (r := r) hm)
        clear hm
        go_wp2_with fail
        go_ret
        exact ⟨ret_bool HD.out, HB12.out⟩
      · have q_bx0 : w12.cell? ⟨gx, 0, none⟩ = some (.bool x) := bx.cell 0
        have q_ba0 : w12.cell? ⟨ga, 0, none⟩ = some (.string a) := ba.cell 0
        have q_br0 : w12.cell? ⟨gr, 0, none⟩ = some (.string r) := br.cell 0
        have q_bs0 : w12.cell? ⟨w.heap.size, 0, none⟩ = some (.bool s.al) := bs.cell 0
        have q_bs1 : w12.cell? ⟨w.heap.size, 1, none⟩ = some (.slice A s.ac.length c) := bs.cell 1
        have q_bs2 : w12.cell? ⟨w.heap.size, 2, none⟩ = some (.slice A2 s.re.length c2) := bs.cell 2
        have HD := Lib.hid (dd_4 (r := r) HX.out HC.out hm)
        clear hm
        go_wp2_with fail
        refine (some_any A2 c2 s.re r _ (HL2.out.on HB12.out) HZ.out.2.1 HZ.out.2.2.2 HR.out).mono ?_
        rintro e w13 ⟨rfl, hb⟩
        clear q_bx0 q_ba0 q_br0 q_bs0 q_bs1 q_bs2
        have bx : Blk w13 (gx) 4 #[.bool x] := (bx).on hb
        have ba : Blk w13 (ga) 9 #[.string a] := (ba).on hb
        have br : Blk w13 (gr) 9 #[.string r] := (br).on hb
        have bs : Blk w13 (w.heap.size) 31 #[.bool s.al, .slice A s.ac.length c, .slice A2 s.re.length c2] := (bs).on hb
        have hbz := hb.size
        have HB13 := Lib.hid ((HB12.out).trans (hb.mono (by first | exact Nat.le_refl _ | omega | (simp; done) | (simp; omega))))
        have hz13 : w.heap.size ≤ w13.heap.size := HB13.out.size
        clear hb hbz
        go_wp2_with fail
        go_ret
        exact ⟨ret_bool HD.out, HB13.out⟩
    · have q_bx0 : w11.cell? ⟨gx, 0, none⟩ = some (.bool x) := bx.cell 0
      have q_ba0 : w11.cell? ⟨ga, 0, none⟩ = some (.string a) := ba.cell 0
      have q_br0 : w11.cell? ⟨gr, 0, none⟩ = some (.string r) := br.cell 0
      have q_bs0 : w11.cell? ⟨w.heap.size, 0, none⟩ = some (.bool s.al) := bs.cell 0
      have q_bs1 : w11.cell? ⟨w.heap.size, 1, none⟩ = some (.slice A s.ac.length c) := bs.cell 1
      have q_bs2 : w11.cell? ⟨w.heap.size, 2, none⟩ = some (.slice A2 s.re.length c2) := bs.cell 2
      have HD := Lib.hid (dd_2 (x := x) (a := a) (r := r) (show s.ck ≠ 0 by omega))
      rw [hc]
      clear hc
      go_wp2_with fail
      go_ret
      exact ⟨ret_bool HD.out, HB11.out⟩
    · have q_bx0 : w11.cell? ⟨gx, 0, none⟩ = some (.bool x) := bx.cell 0
      have q_ba0 : w11.cell? ⟨ga, 0, none⟩ = some (.string a) := ba.cell 0
      have q_br0 : w11.cell? ⟨gr, 0, none⟩ = some (.string r) := br.cell 0
      have q_bs0 : w11.cell? ⟨w.heap.size, 0, none⟩ = some (.bool s.al) := bs.cell 0
      have q_bs1 : w11.cell? ⟨w.heap.size, 1, none⟩ = some (.slice A s.ac.length c) := bs.cell 1
      have q_bs2 : w11.cell? ⟨w.heap.size, 2, none⟩ = some (.slice A2 s.re.length c2) := bs.cell 2
      have HD := Lib.hid (dd_2 (x := x) (a := a) (r := r) (show s.ck ≠ 0 by omega))
      rw [hc]
      clear hc
      go_wp2_with fail
      go_ret
      exact ⟨ret_bool HD.out, HB11.out⟩
theorem dec11_ans (gx ga gr : Nat) (x : Bool) (a r : ByteArray) (s : St) (v : Value) (w : World) (bx : Blk w gx 4 #[.bool x]) (ba : Blk w ga 9 #[.string a]) (br : Blk w gr 9 #[.string r]) (hv : StV w w.heap.size v s) (hz : SzSt s) (ha : a.size ≤ 9223372036854775807) (hr : r.size ≤ 9223372036854775807) :
    AnsV 29 #[.pointer (some ⟨gx, 0, none⟩), .pointer (some ⟨ga, 0, none⟩), .pointer (some ⟨gr, 0, none⟩)] w v (s.al == x && s.mt a r) :=
  fun W hb => dec11_any gx ga gr x a r s v W (bx.on hb) (ba.on hb) (br.on hb) (hv.on hb) hz ha hr
set_option maxHeartbeats 4000000 in
theorem dec1_any (gl ga gr : Nat) (x : Bool) (a r : ByteArray) (A : Option Addr) (c : Nat) (l : List St) (w : World) (bl : Blk w gl 22 #[.slice A l.length c]) (ba : Blk w ga 9 #[.string a]) (br : Blk w gr 9 #[.string r]) (hl : StsAt w w.heap.size A l) (hz : SzL l) (ha : a.size ≤ 9223372036854775807) (hr : r.size ≤ 9223372036854775807) :
    Calls Tryd.prog 27 #[.bool x, .pointer (some ⟨gl, 0, none⟩), .pointer (some ⟨ga, 0, none⟩), .pointer (some ⟨gr, 0, none⟩)] w fun e w' => e = .returned (.int .i64 (firI l x a r)) ∧ Below w.heap.size w w' := by
  have HL := Lib.hid hl
  have HZ := Lib.hid hz
  have HA := Lib.hid ha
  have HR := Lib.hid hr
  clear hl hz ha hr
  have ll := bl.lt
  have q' : (w.alloc (.cells #[.bool x] 4)).cell? ⟨gl, 0, none⟩ = some (.slice A l.length c) := (bl.alloc _).cell 0
  go_enter Tryd.func27, Tryd.ntmps27
  go_wp2_with fail
  refine (IndexT _ enters_dec11 _ (fun s => s.al == x && s.mt a r) A c l _ (HL.out.on (size_new _ _)) HZ.out.1 (fun s hs v hv => dec11_ans _ _ _ x a r s v _ (Blk.new w _ _) (ba.alloc _) (br.alloc _) hv (HZ.out.2 s hs) HA.out HR.out)).mono ?_
  rintro e w11 ⟨rfl, hb⟩
  have bl : Blk w11 (gl) 22 #[.slice A l.length c] := ((bl).alloc _).on hb
  have ba : Blk w11 (ga) 9 #[.string a] := ((ba).alloc _).on hb
  have br : Blk w11 (gr) 9 #[.string r] := ((br).alloc _).on hb
  have bx : Blk w11 (w.heap.size) 4 #[.bool x] := (Blk.new _ _ _).on hb
  have hbz := hb.size
  have HB11 := Lib.hid (((Below.refl w.heap.size w).alloc (by first | exact Nat.le_refl _ | omega | (simp; done) | (simp; omega)) _).trans (hb.mono (by first | exact Nat.le_refl _ | omega | (simp; done) | (simp; omega))))
  have hz11 : w.heap.size ≤ w11.heap.size := HB11.out.size
  clear hb hbz
  go_wp2_with fail
  go_ret
  exact ⟨rfl, HB11.out⟩
set_option maxHeartbeats 4000000 in
theorem Decide_any (A : Option Addr) (c : Nat) (l : List St) (a r : ByteArray) (w : World) (hl : StsAt w w.heap.size A l) (hz : SzL l) (ha : a.size ≤ 9223372036854775807) (hr : r.size ≤ 9223372036854775807) :
    Calls Tryd.prog 11 #[.slice A l.length c, .string a, .string r] w fun e w' => e = .returned (aggD (decS l a r)) ∧ Below w.heap.size w w' := by
  have HL := Lib.hid hl
  have HZ := Lib.hid hz
  have HA := Lib.hid ha
  have HR := Lib.hid hr
  clear hl hz ha hr
  go_enter Tryd.func11, Tryd.ntmps11
  go_wp2_with fail
  have bl : Blk (((((w).alloc (.cells #[.slice A l.length c] 22)).alloc (.cells #[.string a] 9)).alloc (.cells #[.string r] 9)).alloc (.cells #[.bool false, .int .i64 0] 26)) (w.heap.size) 22 #[.slice A l.length c] := (((Blk.new _ _ _).alloc _).alloc _).alloc _
  have ba : Blk (((((w).alloc (.cells #[.slice A l.length c] 22)).alloc (.cells #[.string a] 9)).alloc (.cells #[.string r] 9)).alloc (.cells #[.bool false, .int .i64 0] 26)) (w.heap.size + 1) 9 #[.string a] := ((Blk.new1 _ _ _ _).alloc _).alloc _
  have br : Blk (((((w).alloc (.cells #[.slice A l.length c] 22)).alloc (.cells #[.string a] 9)).alloc (.cells #[.string r] 9)).alloc (.cells #[.bool false, .int .i64 0] 26)) (w.heap.size + 2) 9 #[.string r] := (Blk.new2 _ _ _ _ _).alloc _
  have bd : Blk (((((w).alloc (.cells #[.slice A l.length c] 22)).alloc (.cells #[.string a] 9)).alloc (.cells #[.string r] 9)).alloc (.cells #[.bool false, .int .i64 0] 26)) (w.heap.size + 3) 26 #[.bool false, .int .i64 0] := Blk.new3 _ _ _ _ _ _
  have HB11 := Lib.hid (show Below w.heap.size w (((((w).alloc (.cells #[.slice A l.length c] 22)).alloc (.cells #[.string a] 9)).alloc (.cells #[.string r] 9)).alloc (.cells #[.bool false, .int .i64 0] 26)) from ((((Below.refl w.heap.size w).alloc (by first | exact Nat.le_refl _ | omega | (simp; done) | (simp; omega)) _).alloc (by first | exact Nat.le_refl _ | omega | (simp; done) | (simp; omega)) _).alloc (by first | exact Nat.le_refl _ | omega | (simp; done) | (simp; omega)) _).alloc (by first | exact Nat.le_refl _ | omega | (simp; done) | (simp; omega)) _)
  generalize ((((w).alloc (.cells #[.slice A l.length c] 22)).alloc (.cells #[.string a] 9)).alloc (.cells #[.string r] 9)).alloc (.cells #[.bool false, .int .i64 0] 26) = w11 at *
  have hz11 : w.heap.size ≤ w11.heap.size := HB11.out.size
  have HL1 := Lib.hid (HL.out.on HB11.out)
  go_wp2_with fail
  refine (dec1_any _ _ _ false a r A c l _ bl ba br (HL.out.on HB11.out) HZ.out HA.out HR.out).mono ?_
  rintro e w12 ⟨rfl, hb⟩
  have bl : Blk w12 (w.heap.size) 22 #[.slice A l.length c] := (bl).on hb
  have ba : Blk w12 (w.heap.size + 1) 9 #[.string a] := (ba).on hb
  have br : Blk w12 (w.heap.size + 2) 9 #[.string r] := (br).on hb
  have bd : Blk w12 (w.heap.size + 3) 26 #[.bool false, .int .i64 0] := (bd).on hb
  have hbz := hb.size
  have HB12 := Lib.hid ((HB11.out).trans (hb.mono (by first | exact Nat.le_refl _ | omega | (simp; done) | (simp; omega))))
  have hz12 : w.heap.size ≤ w12.heap.size := HB12.out.size
  clear hb hbz
  obtain ⟨n, hn⟩ : ∃ n, firI l false a r = n := ⟨_, rfl⟩
  rw [hn]
  have HN := Lib.hid hn
  clear hn
  by_cases h0 : 0 ≤ n
  · have HD := Lib.hid (show decS l a r = (false, n) by rw [decS_yes (by rw [HN.out]; exact h0), HN.out])
    have q_bd0 : w12.cell? ⟨w.heap.size + 3, 0, none⟩ = some (.bool false) := bd.cell 0
    have q_bd1 : w12.cell? ⟨w.heap.size + 3, 1, none⟩ = some (.int .i64 0) := bd.cell 1
    have f_bd0 : w12.frozen? ⟨w.heap.size + 3, 0, none⟩ = false := bd.frozen 0
    have f_bd1 : w12.frozen? ⟨w.heap.size + 3, 1, none⟩ = false := bd.frozen 1
    go_wp2_with fail
    exact bodyPost_ret (v := .agg #[.bool false, .int .i64 n]) (by simp [results, Tryd.results11, go_sem, q_bd0, q_bd1]) rfl ⟨ret_aggD HD.out, below_set2 (HB12.out) (by first | exact Nat.le_refl _ | omega | (simp; done) | (simp; omega)) _ _⟩
  · have HM := Lib.hid (show firI l false a r < 0 by rw [HN.out]; omega)
    go_wp2_with fail
    refine (dec1_any _ _ _ true a r A c l _ bl ba br (HL.out.on HB12.out) HZ.out HA.out HR.out).mono ?_
    rintro e w13 ⟨rfl, hb⟩
    have bl : Blk w13 (w.heap.size) 22 #[.slice A l.length c] := (bl).on hb
    have ba : Blk w13 (w.heap.size + 1) 9 #[.string a] := (ba).on hb
    have br : Blk w13 (w.heap.size + 2) 9 #[.string r] := (br).on hb
    have bd : Blk w13 (w.heap.size + 3) 26 #[.bool false, .int .i64 0] := (bd).on hb
    have hbz := hb.size
    have HB13 := Lib.hid ((HB12.out).trans (hb.mono (by first | exact Nat.le_refl _ | omega | (simp; done) | (simp; omega))))
    have hz13 : w.heap.size ≤ w13.heap.size := HB13.out.size
    clear hb hbz
    obtain ⟨m, hm⟩ : ∃ n, firI l true a r = n := ⟨_, rfl⟩
    rw [hm]
    have HD := Lib.hid (show decS l a r = (decide (0 ≤ m), m) by rw [decS_no HM.out, hm])
    clear hm
    have q_bd0 : w13.cell? ⟨w.heap.size + 3, 0, none⟩ = some (.bool false) := bd.cell 0
    have q_bd1 : w13.cell? ⟨w.heap.size + 3, 1, none⟩ = some (.int .i64 0) := bd.cell 1
    have f_bd0 : w13.frozen? ⟨w.heap.size + 3, 0, none⟩ = false := bd.frozen 0
    have f_bd1 : w13.frozen? ⟨w.heap.size + 3, 1, none⟩ = false := bd.frozen 1
    go_wp2_with fail
    exact bodyPost_ret (v := .agg #[.bool (decide (0 ≤ m)), .int .i64 m]) (by simp [results, Tryd.results11, go_sem, q_bd0, q_bd1]) rfl ⟨ret_aggD HD.out, below_set2 (HB13.out) (by first | exact Nat.le_refl _ | omega | (simp; done) | (simp; omega)) _ _⟩
set_option maxHeartbeats 4000000 in
theorem rMatches_st (s : St) (v : Value) (a r : ByteArray) (w : World) (hv : StV w w.heap.size v s) (hz : SzSt s) (ha : a.size ≤ 9223372036854775807) (hr : r.size ≤ 9223372036854775807) :
    Calls Tryd.prog 25 #[v, .string a, .string r] w fun e w' => e = .returned (.bool (s.mt a r)) ∧ Below w.heap.size w w' := by
  have HV := Lib.hid hv
  have HZ := Lib.hid hz
  have HA := Lib.hid ha
  have HR := Lib.hid hr
  obtain ⟨A, c, A2, c2, rfl, h1, h2⟩ := hv
  have HL1 := Lib.hid h1
  have HL2 := Lib.hid h2
  clear h1 h2 hz ha hr
  go_enter Tryd.func25, Tryd.ntmps25
  go_wp2_with fail
  refine (rCheck_any s _ _ (HV.out.on (size_new _ _)) HZ.out).mono ?_
  rintro e w11 ⟨rfl, hb⟩
  have bs : Blk w11 (w.heap.size) 31 #[.bool s.al, .slice A s.ac.length c, .slice A2 s.re.length c2] := (Blk.new _ _ _).on hb
  have hbz := hb.size
  have HB11 := Lib.hid (((Below.refl w.heap.size w).alloc (by first | exact Nat.le_refl _ | omega | (simp; done) | (simp; omega)) _).trans (hb.mono (by first | exact Nat.le_refl _ | omega | (simp; done) | (simp; omega))))
  have hz11 : w.heap.size ≤ w11.heap.size := HB11.out.size
  clear hb hbz
  rcases ck_cases s with hc | hc | hc
  · have HC := Lib.hid hc
    rw [hc]
    clear hc
    have q_bs0 : w11.cell? ⟨w.heap.size, 0, none⟩ = some (.bool s.al) := bs.cell 0
    have q_bs1 : w11.cell? ⟨w.heap.size, 1, none⟩ = some (.slice A s.ac.length c) := bs.cell 1
    have q_bs2 : w11.cell? ⟨w.heap.size, 2, none⟩ = some (.slice A2 s.re.length c2) := bs.cell 2
    go_wp2_with fail
    refine (one_any A c s.ac a _ (HL1.out.on HB11.out) HZ.out.1 HZ.out.2.2.1 HA.out).mono ?_
    rintro e wq ⟨rfl, rfl⟩
    cases hm : anyM s.ac a
    · have HD := Lib.hid (mm_3 (r := r) hm)
      clear hm
      go_wp2_with fail
      go_ret
      exact ⟨ret_bool HD.out, HB11.out⟩
    · have HD := Lib.hid (mm_4 (r := r) HC.out hm)
      clear hm
      go_wp2_with fail
      refine (one_any A2 c2 s.re r _ (HL2.out.on HB11.out) HZ.out.2.1 HZ.out.2.2.2 HR.out).mono ?_
      rintro e wq ⟨rfl, rfl⟩
      go_wp2_with fail
      go_ret
      exact ⟨ret_bool HD.out, HB11.out⟩
  · have q_bs0 : w11.cell? ⟨w.heap.size, 0, none⟩ = some (.bool s.al) := bs.cell 0
    have q_bs1 : w11.cell? ⟨w.heap.size, 1, none⟩ = some (.slice A s.ac.length c) := bs.cell 1
    have q_bs2 : w11.cell? ⟨w.heap.size, 2, none⟩ = some (.slice A2 s.re.length c2) := bs.cell 2
    have HD := Lib.hid (mm_2 (a := a) (r := r) (show s.ck ≠ 0 by omega))
    rw [hc]
    clear hc
    go_wp2_with fail
    go_ret
    exact ⟨ret_bool HD.out, HB11.out⟩
  · have q_bs0 : w11.cell? ⟨w.heap.size, 0, none⟩ = some (.bool s.al) := bs.cell 0
    have q_bs1 : w11.cell? ⟨w.heap.size, 1, none⟩ = some (.slice A s.ac.length c) := bs.cell 1
    have q_bs2 : w11.cell? ⟨w.heap.size, 2, none⟩ = some (.slice A2 s.re.length c2) := bs.cell 2
    have HD := Lib.hid (mm_2 (a := a) (r := r) (show s.ck ≠ 0 by omega))
    rw [hc]
    clear hc
    go_wp2_with fail
    go_ret
    exact ⟨ret_bool HD.out, HB11.out⟩
set_option maxHeartbeats 4000000 in
theorem first_any (A : Option Addr) (c : Nat) (l : List St) (x : Bool) (a r : ByteArray) (w : World) (hl : StsAt w w.heap.size A l) (hz : SzL l) (ha : a.size ≤ 9223372036854775807) (hr : r.size ≤ 9223372036854775807) :
    Calls Tryd.prog 31 #[.slice A l.length c, .bool x, .string a, .string r] w fun e w' => e = .returned (.int .i64 (firI l x a r)) ∧ Below w.heap.size w w' := by
  have HL := Lib.hid hl
  have HZ := Lib.hid hz
  have HA := Lib.hid ha
  have HR := Lib.hid hr
  have hn := hz.1
  clear hl hz ha hr
  go_enter Tryd.func31, Tryd.ntmps31
  go_wp2_with fail
  go_loopw [9] (fun i wr => ∃ k : Nat, k ≤ l.length ∧ i = .int .i64 k ∧ (∀ j y, j < k → l[j]? = some y → (y.al == x && y.mt a r) = false) ∧ Below w.heap.size w wr) (fun i _ => l.length - (intOf i).toNat)
  case atStart => exact ⟨0, Nat.zero_le _, rfl, fun j x hj => absurd hj (by omega), Below.refl _ _⟩
  case round =>
    obtain ⟨k, hk, rfl, hno, hbr⟩ := hrel
    have HN := Lib.hid hno
    have HB := Lib.hid hbr
    have hzr : w.heap.size ≤ wr.heap.size := hbr.size
    clear hno hbr
    by_cases hlt : k < l.length
    · obtain ⟨t, ht⟩ : ∃ t, l[k]? = some t := ⟨_, List.getElem?_eq_getElem hlt⟩
      obtain ⟨b, o, P, cp, P2, cp2, rfl, hbl, c0, c1, c2, hv⟩ := (HL.out.keep HB.out).cells ht
      have HT := Lib.hid ht
      have HV := Lib.hid (hv.more hzr)
      have HS := Lib.hid (HZ.out.2 t (List.mem_of_getElem? ht))
      have hki : (k : Int) < l.length := by omega
      have hk0 : (0 : Int) ≤ k := by omega
      clear ht hv
      obtain ⟨qq, hx⟩ : ∃ q, (t.al == x) = q := ⟨_, rfl⟩
      cases qq
      · have HD := Lib.hid (no_step HN.out HT.out (p := fun y => y.al == x && y.mt a r) (by simp only [hx]; rfl))
        go_wp2_with fail
        go_roundw
        case rel => exact ⟨k + 1, by omega, by go_num, HD.out, HB.out⟩
        case measure => simp [intOf]; omega
      · have HX := Lib.hid hx
        go_wp2_with fail
        refine (rMatches_st t _ a r wr HV.out HS.out HA.out HR.out).mono ?_
        rintro e w1 ⟨rfl, hb⟩
        have HB1 := Lib.hid (HB.out.trans (hb.mono hzr))
        clear hb c0 c1 c2
        cases hm : t.mt a r
        · have HD := Lib.hid (no_step HN.out HT.out (p := fun y => y.al == x && y.mt a r) (by simp only [hm]; simp))
          clear hm
          go_wp2_with fail
          go_roundw
          case rel => exact ⟨k + 1, by omega, by go_num, HD.out, HB1.out⟩
          case measure => simp [intOf]; omega
        · have HD := Lib.hid (idxG_hit (p := fun y => y.al == x && y.mt a r) HT.out (by simp only [hm, HX.out]; rfl) HN.out)
          clear hm
          go_wp2_with fail
          go_ret
          exact ⟨ret_int HD.out, HB1.out⟩
    · have hki : ¬ (k : Int) < l.length := by omega
      go_wp2_with fail
      go_ret
      exact ⟨ret_int (idxG_none (p := fun (y : St) => y.al == x && y.mt a r) (l := l) (fun j y hj hy => HN.out j y (by omega) hy)), HB.out⟩
set_option maxHeartbeats 4000000 in
theorem rDecide_any (A : Option Addr) (c : Nat) (l : List St) (a r : ByteArray) (w : World) (hl : StsAt w w.heap.size A l) (hz : SzL l) (ha : a.size ≤ 9223372036854775807) (hr : r.size ≤ 9223372036854775807) :
    Calls Tryd.prog 12 #[.slice A l.length c, .string a, .string r] w fun e w' => e = .returned (aggD (decS l a r)) ∧ Below w.heap.size w w' := by
  have HL := Lib.hid hl
  have HZ := Lib.hid hz
  have HA := Lib.hid ha
  have HR := Lib.hid hr
  clear hl hz ha hr
  go_enter Tryd.func12, Tryd.ntmps12
  go_wp2_with fail
  have bd : Blk ((w).alloc (.cells #[.bool false, .int .i64 0] 26)) (w.heap.size) 26 #[.bool false, .int .i64 0] := Blk.new _ _ _
  have HB11 := Lib.hid (show Below w.heap.size w ((w).alloc (.cells #[.bool false, .int .i64 0] 26)) from (Below.refl w.heap.size w).alloc (by first | exact Nat.le_refl _ | omega | (simp; done) | (simp; omega)) _)
  generalize (w).alloc (.cells #[.bool false, .int .i64 0] 26) = w11 at *
  have hz11 : w.heap.size ≤ w11.heap.size := HB11.out.size
  go_wp2_with fail
  refine (first_any A c l false a r _ (HL.out.on HB11.out) HZ.out HA.out HR.out).mono ?_
  rintro e w12 ⟨rfl, hb⟩
  have bd : Blk w12 (w.heap.size) 26 #[.bool false, .int .i64 0] := (bd).on hb
  have hbz := hb.size
  have HB12 := Lib.hid ((HB11.out).trans (hb.mono (by first | exact Nat.le_refl _ | omega | (simp; done) | (simp; omega))))
  have hz12 : w.heap.size ≤ w12.heap.size := HB12.out.size
  clear hb hbz
  obtain ⟨n, hn⟩ : ∃ n, firI l false a r = n := ⟨_, rfl⟩
  rw [hn]
  have HN := Lib.hid hn
  clear hn
  by_cases h0 : 0 ≤ n
  · have HD := Lib.hid (show decS l a r = (false, n) by rw [decS_yes (by rw [HN.out]; exact h0), HN.out])
    have q_bd0 : w12.cell? ⟨w.heap.size, 0, none⟩ = some (.bool false) := bd.cell 0
    have q_bd1 : w12.cell? ⟨w.heap.size, 1, none⟩ = some (.int .i64 0) := bd.cell 1
    have f_bd0 : w12.frozen? ⟨w.heap.size, 0, none⟩ = false := bd.frozen 0
    have f_bd1 : w12.frozen? ⟨w.heap.size, 1, none⟩ = false := bd.frozen 1
    go_wp2_with fail
    exact bodyPost_ret (v := .agg #[.bool false, .int .i64 n]) (by simp [results, Tryd.results12, go_sem, q_bd0, q_bd1]) rfl ⟨ret_aggD HD.out, below_set2 (HB12.out) (by first | exact Nat.le_refl _ | omega | (simp; done) | (simp; omega)) _ _⟩
  · have HM := Lib.hid (show firI l false a r < 0 by rw [HN.out]; omega)
    go_wp2_with fail
    refine (first_any A c l true a r _ (HL.out.on HB12.out) HZ.out HA.out HR.out).mono ?_
    rintro e w13 ⟨rfl, hb⟩
    have bd : Blk w13 (w.heap.size) 26 #[.bool false, .int .i64 0] := (bd).on hb
    have hbz := hb.size
    have HB13 := Lib.hid ((HB12.out).trans (hb.mono (by first | exact Nat.le_refl _ | omega | (simp; done) | (simp; omega))))
    have hz13 : w.heap.size ≤ w13.heap.size := HB13.out.size
    clear hb hbz
    obtain ⟨m, hm⟩ : ∃ n, firI l true a r = n := ⟨_, rfl⟩
    rw [hm]
    have HD := Lib.hid (show decS l a r = (decide (0 ≤ m), m) by rw [decS_no HM.out, hm])
    clear hm
    have q_bd0 : w13.cell? ⟨w.heap.size, 0, none⟩ = some (.bool false) := bd.cell 0
    have q_bd1 : w13.cell? ⟨w.heap.size, 1, none⟩ = some (.int .i64 0) := bd.cell 1
    have f_bd0 : w13.frozen? ⟨w.heap.size, 0, none⟩ = false := bd.frozen 0
    have f_bd1 : w13.frozen? ⟨w.heap.size, 1, none⟩ = false := bd.frozen 1
    go_wp2_with fail
    exact bodyPost_ret (v := .agg #[.bool (decide (0 ≤ m)), .int .i64 m]) (by simp [results, Tryd.results12, go_sem, q_bd0, q_bd1]) rfl ⟨ret_aggD HD.out, below_set2 (HB13.out) (by first | exact Nat.le_refl _ | omega | (simp; done) | (simp; omega)) _ _⟩
end Go.Proofs.YtcmlgiilifdnfaaDoor
