/- Joined lists; Format: the program's and the reference's. -/
import Derived.Test.YtcmlgiilifdnfaaDoorPL
namespace Go.Proofs.YtcmlgiilifdnfaaDoor
open Go.RowKit
open Go.Sort (grow)

theorem join_joinC (c : UInt8) (l : List (List UInt8)) : Lib.join l [c] = joinC c l := by
  induction l with
  | nil => rfl
  | cons x r ih =>
    cases r with
    | nil => rw [Lib.join_one]; rfl
    | cons y r => rw [joinC, ← ih, Lib.join_cons, Lib.join_cons]; simp [Lib.joinTail]
theorem joinC_snoc (c : UInt8) (l : List (List UInt8)) (h : l ≠ []) (x : List UInt8) : joinC c (l ++ [x]) = joinC c l ++ c :: x := by
  induction l with
  | nil => exact absurd rfl h
  | cons y r ih =>
    cases r with
    | nil => rfl
    | cons z r =>
      have := ih (by simp)
      simp only [List.cons_append] at this ⊢
      rw [joinC, this, joinC, List.append_assoc]; rfl
theorem joinC_len (c : UInt8) (l : List (List UInt8)) (h : ∀ x ∈ l, x.length ≤ 64) : (joinC c l).length ≤ 65 * l.length := by
  induction l with
  | nil => simp [joinC]
  | cons y r ih =>
    have h1 := h y (by simp)
    have h2 := ih fun x hx => h x (by simp [hx])
    cases r with
    | nil => simp only [joinC, List.length_cons, List.length_nil]; omega
    | cons z r => rw [joinC]; simp only [List.length_append, List.length_cons] at h2 ⊢; omega
/-- The patterns of a list, with commas between them. -/
def bj (l : List ByteArray) : ByteArray := ⟨(joinC 44 (l.map (·.data.toList))).toArray⟩
def Ok8 (l : List ByteArray) : Prop := 1 ≤ l.length ∧ l.length ≤ 8 ∧ ∀ t ∈ l, t.size ≤ 64
theorem bj_size {l : List ByteArray} (h : l.length ≤ 8) (h2 : ∀ t ∈ l, t.size ≤ 64) : (bj l).size ≤ 520 := by
  have := joinC_len 44 (l.map (·.data.toList)) (by
    intro x hx
    obtain ⟨t, ht, rfl⟩ := List.mem_map.1 hx
    rw [size_len]; exact h2 t ht)
  rw [List.length_map] at this
  have e : (bj l).size = (joinC 44 (l.map (·.data.toList))).length := by rw [← size_len]; rfl
  omega
theorem bj_take {l : List ByteArray} (h : Ok8 l) (k : Nat) : (bj (l.take k)).size ≤ 520 := by
  refine bj_size ?_ fun t ht => h.2.2 t (List.mem_of_mem_take ht)
  rw [List.length_take]; have := h.2.1; omega
theorem bj_one {l : List ByteArray} {t : ByteArray} (ht : l[0]? = some t) : bj (l.take 0) ++ t = bj (l.take 1) := by
  apply ba_ext
  rw [List.take_add_one, ht]
  unfold bj
  simp [joinC]
theorem bj_step {l : List ByteArray} {t : ByteArray} {k : Nat} (hk : 0 < k) (ht : l[k]? = some t) : (bj (l.take k) ++ ⟨#[44]⟩) ++ t = bj (l.take (k + 1)) := by
  apply ba_ext
  have hlt : k < l.length := (List.getElem?_eq_some_iff.1 ht).1
  rw [List.take_add_one, ht]
  unfold bj
  rw [Option.toList_some, List.map_append, List.map_singleton, joinC_snoc]
  · simp
  · intro e
    have := congrArg List.length e
    rw [List.length_map, List.length_take, List.length_nil] at this
    omega
theorem ok8_of {s : St} (h : s.ck = 0) : Ok8 s.ac ∧ Ok8 s.re := by
  obtain ⟨⟨h1, h2⟩, ⟨h3, h4⟩, h5, h6⟩ := (St.ok_iff s).1 (ok_of h)
  refine ⟨⟨h1, h2, fun t ht => ?_⟩, h3, h4, fun t ht => ?_⟩
  · have := pat_nonempty (List.all_eq_true.1 h5 t ht); rw [size_len] at this; exact this.2
  · have := pat_nonempty (List.all_eq_true.1 h6 t ht); rw [size_len] at this; exact this.2
theorem joined_any (A : Option Addr) (c : Nat) (l : List ByteArray) (w : World) (hl : StrL w w.heap.size A l) (ho : Ok8 l) :
    Calls Tryd.prog 33 #[.slice A l.length c] w fun e w' => e = .returned (.string (bj l)) ∧ ∃ n, w' = w.drewN n := by
  have HL := Lib.hid hl
  have HO := Lib.hid ho
  have hn := ho.2.1
  clear hl ho
  go_enter Tryd.func33, Tryd.ntmps33
  go_wp2_with fail
  go_loop [3, 4] (fun s i => ∃ k : Nat, k ≤ l.length ∧ i = .int .i64 k ∧ s = .string (bj (l.take k))) (fun _ i => l.length - (intOf i).toNat)
  case atStart => exact ⟨0, Nat.zero_le _, rfl, rfl⟩
  case round =>
    obtain ⟨k, hk, rfl, rfl⟩ := hrel
    have hcs := bj_take HO.out k
    by_cases hlt : k < l.length
    · obtain ⟨t, ht⟩ : ∃ t, l[k]? = some t := ⟨_, List.getElem?_eq_getElem hlt⟩
      obtain ⟨b, o, rfl, -, c0⟩ := HL.out.cell ht
      have hts := HO.out.2.2 t (List.mem_of_getElem? ht)
      have hki : (k : Int) < l.length := by omega
      have hk0 : (0 : Int) ≤ k := by omega
      by_cases h0 : k = 0
      · subst h0
        have c1 : w.cell? ⟨b, o, none⟩ = some (.string t) := c0
        have HS := Lib.hid (bj_one ht)
        clear ht
        generalize bj (l.take 0) = a at *
        go_wp2_with fail
        go_round
        case rel => exact ⟨1, by omega, by go_num, by rw [HS.out]⟩
        case measure => simp [intOf]; omega
      · have HS := Lib.hid (bj_step (by omega) ht)
        have hk1 : (0 : Int) < k := by omega
        have d1 : decide ((0 : Int) < k) = true := decide_eq_true (by omega)
        clear ht
        generalize bj (l.take k) = a at *
        go_wp2_with fail
        go_round
        case rel => exact ⟨k + 1, by omega, by go_num, by rw [HS.out]⟩
        case measure => simp [intOf]; omega
    · obtain rfl : k = l.length := by omega
      have HT := Lib.hid (List.take_length (l := l))
      rw [HT.out]
      go_wp2_with fail
      go_ret
      exact ⟨rfl, 0, rfl⟩
theorem Join_any (A : Option Addr) (c : Nat) (l : List ByteArray) (w : World) (hl : StrL w w.heap.size A l) (ho : Ok8 l) (hc : l.length ≤ c) :
    Calls Tryd.prog 32 #[.slice A l.length c, .string ⟨#[44]⟩] w fun e w' => e = .returned (.string (bj l)) ∧ Below w.heap.size w w' := by
  obtain ⟨t, ht⟩ : ∃ t, l[0]? = some t := ⟨_, List.getElem?_eq_getElem (by have := ho.1; omega)⟩
  obtain ⟨b, o, rfl, hb, -⟩ := hl.cell ht
  have hj := join_joinC 44 (l.map (·.data.toList))
  have hsz := bj_size ho.2.1 ho.2.2
  have e : (bj l).size = (joinC 44 (l.map (·.data.toList))).length := by rw [← size_len]; rfl
  refine (Tryd.strings_Join b o c l ⟨#[44]⟩ w (fun j x hx => ?_) hb (by have := ho.2.1; omega) hc (by rw [show (⟨#[44]⟩ : ByteArray).data.toList = [44] from rfl, hj]; omega)).mono ?_
  · obtain ⟨b', o', e', -, h'⟩ := hl.cell hx
    injection e' with e'
    injection e' with e1 e2
    subst e1 e2
    exact h'
  · rintro e' w' ⟨rfl, hb⟩
    refine ⟨?_, hb⟩
    rw [show (⟨#[44]⟩ : ByteArray).data.toList = [44] from rfl, hj]; rfl
theorem Join_at (A : Option Addr) (c : Nat) (l : List ByteArray) (W : World) (d : Nat) (os : Array Obj) (hl : StrL W W.heap.size A l) (ho : Ok8 l) (hc : l.length ≤ c) :
    Calls Tryd.prog 32 #[.slice A l.length c, .string ⟨#[44]⟩] (grow (redrawn W d) os) fun e w' => e = .returned (.string (bj l)) ∧ ∃ p : Regrown, w' = grow (redrawn W p.d) p.os :=
  Calls.regrown_of (Join_any A c l _ (hl.on (below_regrown W d os)) ho hc)
theorem joined_at (A : Option Addr) (c : Nat) (l : List ByteArray) (W : World) (d : Nat) (os : Array Obj) (hl : StrL W W.heap.size A l) (ho : Ok8 l) :
    Calls Tryd.prog 33 #[.slice A l.length c] (grow (redrawn W d) os) fun e w' => e = .returned (.string (bj l)) ∧ ∃ p : Regrown, w' = grow (redrawn W p.d) p.os :=
  Calls.regrown_of ((joined_any A c l _ (hl.on (below_regrown W d os)) ho).mono fun _ _ ⟨h, n, h2⟩ => ⟨h, h2 ▸ below_drewN' _ _ n⟩)
/-- The capacities of a statement's value. -/
def CapV (v : Value) (s : St) : Prop := ∃ A c A2 c2, v = .agg #[.bool s.al, .slice A s.ac.length c, .slice A2 s.re.length c2] ∧ s.ac.length ≤ c ∧ s.re.length ≤ c2
def wordL (b : Bool) : ByteArray := if b = true then ⟨#[97, 108, 108, 111, 119]⟩ else ⟨#[100, 101, 110, 121]⟩
def fmS (s : St) : ByteArray × Int := if s.ck = 0 then ((((wordL s.al ++ ⟨#[32]⟩) ++ bj s.ac) ++ ⟨#[32]⟩) ++ bj s.re, 0) else (⟨#[]⟩, s.ck)
def tupF (x : ByteArray × Int) : Value := .tuple #[.string x.1, .int .i64 x.2]
theorem ret_tupF {x : ByteArray × Int} {a : ByteArray} {b : Int} (h : x = (a, b)) : Ending.returned (.tuple #[.string a, .int .i64 b]) = .returned (tupF x) := by subst h; rfl
theorem fm_bad {s : St} {n : Int} (h : s.ck = n) (hn : n ≠ 0) : fmS s = (⟨#[]⟩, n) := by unfold fmS; rw [if_neg (by rw [h]; exact hn), h]
theorem fm_good {s : St} {a : ByteArray} (h : s.ck = 0) (ha : a = wordL s.al) : fmS s = ((((a ++ ⟨#[32]⟩) ++ bj s.ac) ++ ⟨#[32]⟩) ++ bj s.re, 0) := by unfold fmS; rw [if_pos h, ha]
set_option maxHeartbeats 4000000 in
set_option maxRecDepth 100000 in
theorem Format_any (s : St) (v : Value) (w : World) (hv : StV w w.heap.size v s) (hz : SzSt s) (hcap : CapV v s) :
    Calls Tryd.prog 13 #[v] w fun e w' => e = .returned (tupF (fmS s)) ∧ Below w.heap.size w w' := by
  have HV := Lib.hid hv
  have HZ := Lib.hid hz
  obtain ⟨A, c, A2, c2, rfl, h1, h2⟩ := hv
  obtain ⟨A', c', A2', c2', e', hc1, hc2⟩ := hcap
  injection e' with e'
  injection e' with e'
  injection e' with _ e'
  injection e' with e1 e'
  injection e' with e2 e'
  injection e1 with e1 _ e1'
  injection e2 with e2 _ e2'
  subst e1 e1' e2 e2'
  have HC1 := Lib.hid hc1
  have HC2 := Lib.hid hc2
  clear hc1 hc2
  have HL1 := Lib.hid h1
  have HL2 := Lib.hid h2
  obtain ⟨al, hal⟩ : ∃ b, s.al = b := ⟨_, rfl⟩
  rw [hal] at HV
  rw [hal]
  have HAL := Lib.hid hal
  clear h1 h2 hz hal
  go_enter Tryd.func13, Tryd.ntmps13
  go_wp2_with fail
  refine (Check_any s _ _ (HV.out.on (size_new _ _)) HZ.out).mono ?_
  rintro e w11 ⟨rfl, hb⟩
  have bs : Blk w11 (w.heap.size) 31 #[.bool al, .slice A s.ac.length c, .slice A2 s.re.length c2] := (Blk.new _ _ _).on hb
  have hbz := hb.size
  have HB11 := Lib.hid (((Below.refl w.heap.size w).alloc (by first | exact Nat.le_refl _ | omega | (simp; done) | (simp; omega)) _).trans (hb.mono (by first | exact Nat.le_refl _ | omega | (simp; done) | (simp; omega))))
  have hz11 : w.heap.size ≤ w11.heap.size := HB11.out.size
  clear hb hbz
  rcases ck_cases s with hc | hc | hc
  · have HC := Lib.hid hc
    have HO := Lib.hid (ok8_of hc)
    have z1 := bj_size (ok8_of hc).1.2.1 (ok8_of hc).1.2.2
    have z2 := bj_size (ok8_of hc).2.2.1 (ok8_of hc).2.2.2
    rw [hc]
    clear hc
    have HJ1 := Lib.hid (fun W d os (h : StrL W W.heap.size A s.ac) => Join_at A c s.ac W d os h HO.out.1 HC1.out)
    have HJ2 := Lib.hid (fun W d os (h : StrL W W.heap.size A2 s.re) => Join_at A2 c2 s.re W d os h HO.out.2 HC2.out)
    generalize hb1 : bj s.ac = J1 at *
    generalize hb2 : bj s.re = J2 at *
    have HE1 := Lib.hid hb1
    have HE2 := Lib.hid hb2
    clear hb1 hb2
    cases al
    · have HD := Lib.hid (fm_good (a := ⟨#[100, 101, 110, 121]⟩) HC.out (by rw [HAL.out]; rfl))
      rw [HE1.out, HE2.out] at HD
      have q_bs0 : w11.cell? ⟨w.heap.size, 0, none⟩ = some (.bool false) := bs.cell 0
      have q_bs1 : w11.cell? ⟨w.heap.size, 1, none⟩ = some (.slice A s.ac.length c) := bs.cell 1
      have q_bs2 : w11.cell? ⟨w.heap.size, 2, none⟩ = some (.slice A2 s.re.length c2) := bs.cell 2
      have HS1 := Lib.hid (HL1.out.on HB11.out)
      have HS2 := Lib.hid (HL2.out.on HB11.out)
      go_wp2_with fail
      generalize hwd : (⟨#[100, 101, 110, 121]⟩ : ByteArray) = wd at *
      have HW := Lib.hid hwd
      have hw5 : wd.size ≤ 5 := by rw [← hwd]; decide
      clear hwd
      clear q_bs0 q_bs1 q_bs2
      have r_bs0 := fun d os => cell_regrown (v := .bool false) (bs.cell 0) d os
      have r_bs1 := fun d os => cell_regrown (v := .slice A s.ac.length c) (bs.cell 1) d os
      have r_bs2 := fun d os => cell_regrown (v := .slice A2 s.re.length c2) (bs.cell 2) d os
      refine wp_region_quiet_below (by kernel_rfl) (by kernel_rfl) ?_
      repeat (go_big_quiet_step ((go_at_call 32; first | (with_reducible exact HJ1.out _ _ _ HS1.out) | (with_reducible exact HJ2.out _ _ _ HS2.out))))
      refine wpQuiet_nil ?_
      intro _ hw'
      obtain ⟨⟨dq, osq⟩, hw''⟩ := hw'
      subst hw''
      have hb := below_regrown w11 dq osq
      have bs : Blk (Go.Sort.grow (redrawn w11 dq) osq) (w.heap.size) 31 #[.bool false, .slice A s.ac.length c, .slice A2 s.re.length c2] := bs.on hb
      have HB12 := Lib.hid ((HB11.out).trans (hb.mono (by first | exact Nat.le_refl _ | omega | (simp; done) | (simp; omega))))
      clear hb r_bs0 r_bs1 r_bs2
      generalize Go.Sort.grow (redrawn w11 dq) osq = w12 at *
      have hz12 : w.heap.size ≤ w12.heap.size := HB12.out.size
      go_wp2_with fail
      exact bodyPost_ret (v := .tuple #[.string _, .int .i64 0]) (by simp [results, Tryd.results13, go_sem]) rfl ⟨ret_tupF HD.out, HB12.out⟩
    · have HD := Lib.hid (fm_good (a := ⟨#[97, 108, 108, 111, 119]⟩) HC.out (by rw [HAL.out]; rfl))
      rw [HE1.out, HE2.out] at HD
      have q_bs0 : w11.cell? ⟨w.heap.size, 0, none⟩ = some (.bool true) := bs.cell 0
      have q_bs1 : w11.cell? ⟨w.heap.size, 1, none⟩ = some (.slice A s.ac.length c) := bs.cell 1
      have q_bs2 : w11.cell? ⟨w.heap.size, 2, none⟩ = some (.slice A2 s.re.length c2) := bs.cell 2
      have HS1 := Lib.hid (HL1.out.on HB11.out)
      have HS2 := Lib.hid (HL2.out.on HB11.out)
      go_wp2_with fail
      generalize hwd : (⟨#[97, 108, 108, 111, 119]⟩ : ByteArray) = wd at *
      have HW := Lib.hid hwd
      have hw5 : wd.size ≤ 5 := by rw [← hwd]; decide
      clear hwd
      clear q_bs0 q_bs1 q_bs2
      have r_bs0 := fun d os => cell_regrown (v := .bool true) (bs.cell 0) d os
      have r_bs1 := fun d os => cell_regrown (v := .slice A s.ac.length c) (bs.cell 1) d os
      have r_bs2 := fun d os => cell_regrown (v := .slice A2 s.re.length c2) (bs.cell 2) d os
      refine wp_region_quiet_below (by kernel_rfl) (by kernel_rfl) ?_
      repeat (go_big_quiet_step ((go_at_call 32; first | (with_reducible exact HJ1.out _ _ _ HS1.out) | (with_reducible exact HJ2.out _ _ _ HS2.out))))
      refine wpQuiet_nil ?_
      intro _ hw'
      obtain ⟨⟨dq, osq⟩, hw''⟩ := hw'
      subst hw''
      have hb := below_regrown w11 dq osq
      have bs : Blk (Go.Sort.grow (redrawn w11 dq) osq) (w.heap.size) 31 #[.bool true, .slice A s.ac.length c, .slice A2 s.re.length c2] := bs.on hb
      have HB12 := Lib.hid ((HB11.out).trans (hb.mono (by first | exact Nat.le_refl _ | omega | (simp; done) | (simp; omega))))
      clear hb r_bs0 r_bs1 r_bs2
      generalize Go.Sort.grow (redrawn w11 dq) osq = w12 at *
      have hz12 : w.heap.size ≤ w12.heap.size := HB12.out.size
      go_wp2_with fail
      exact bodyPost_ret (v := .tuple #[.string _, .int .i64 0]) (by simp [results, Tryd.results13, go_sem]) rfl ⟨ret_tupF HD.out, HB12.out⟩
  · have HD := Lib.hid (fm_bad hc (by decide))
    rw [hc]
    clear hc
    go_wp2_with fail
    exact bodyPost_ret (v := .tuple #[.string ⟨#[]⟩, .int .i64 3]) (by simp [results, Tryd.results13, go_sem]) rfl ⟨ret_tupF HD.out, HB11.out⟩
  · have HD := Lib.hid (fm_bad hc (by decide))
    rw [hc]
    clear hc
    go_wp2_with fail
    exact bodyPost_ret (v := .tuple #[.string ⟨#[]⟩, .int .i64 4]) (by simp [results, Tryd.results13, go_sem]) rfl ⟨ret_tupF HD.out, HB11.out⟩
set_option maxHeartbeats 4000000 in
set_option maxRecDepth 100000 in
theorem rFormat_any (s : St) (v : Value) (w : World) (hv : StV w w.heap.size v s) (hz : SzSt s) :
    Calls Tryd.prog 14 #[v] w fun e w' => e = .returned (tupF (fmS s)) ∧ Below w.heap.size w w' := by
  have HV := Lib.hid hv
  have HZ := Lib.hid hz
  obtain ⟨A, c, A2, c2, rfl, h1, h2⟩ := hv
  have HL1 := Lib.hid h1
  have HL2 := Lib.hid h2
  obtain ⟨al, hal⟩ : ∃ b, s.al = b := ⟨_, rfl⟩
  rw [hal] at HV
  rw [hal]
  have HAL := Lib.hid hal
  clear h1 h2 hz hal
  go_enter Tryd.func14, Tryd.ntmps14
  go_wp2_with fail
  refine (rCheck_any s _ _ (HV.out.on (size_new _ _)) HZ.out).mono ?_
  rintro e w11 ⟨rfl, hb⟩
  have bs : Blk w11 (w.heap.size) 31 #[.bool al, .slice A s.ac.length c, .slice A2 s.re.length c2] := (Blk.new _ _ _).on hb
  have hbz := hb.size
  have HB11 := Lib.hid (((Below.refl w.heap.size w).alloc (by first | exact Nat.le_refl _ | omega | (simp; done) | (simp; omega)) _).trans (hb.mono (by first | exact Nat.le_refl _ | omega | (simp; done) | (simp; omega))))
  have hz11 : w.heap.size ≤ w11.heap.size := HB11.out.size
  clear hb hbz
  rcases ck_cases s with hc | hc | hc
  · have HC := Lib.hid hc
    have HO := Lib.hid (ok8_of hc)
    have z1 := bj_size (ok8_of hc).1.2.1 (ok8_of hc).1.2.2
    have z2 := bj_size (ok8_of hc).2.2.1 (ok8_of hc).2.2.2
    rw [hc]
    clear hc
    have HJ1 := Lib.hid (fun W d os (h : StrL W W.heap.size A s.ac) => joined_at A c s.ac W d os h HO.out.1)
    have HJ2 := Lib.hid (fun W d os (h : StrL W W.heap.size A2 s.re) => joined_at A2 c2 s.re W d os h HO.out.2)
    generalize hb1 : bj s.ac = J1 at *
    generalize hb2 : bj s.re = J2 at *
    have HE1 := Lib.hid hb1
    have HE2 := Lib.hid hb2
    clear hb1 hb2
    cases al
    · have HD := Lib.hid (fm_good (a := ⟨#[100, 101, 110, 121]⟩) HC.out (by rw [HAL.out]; rfl))
      rw [HE1.out, HE2.out] at HD
      have q_bs0 : w11.cell? ⟨w.heap.size, 0, none⟩ = some (.bool false) := bs.cell 0
      have q_bs1 : w11.cell? ⟨w.heap.size, 1, none⟩ = some (.slice A s.ac.length c) := bs.cell 1
      have q_bs2 : w11.cell? ⟨w.heap.size, 2, none⟩ = some (.slice A2 s.re.length c2) := bs.cell 2
      have HS1 := Lib.hid (HL1.out.on HB11.out)
      have HS2 := Lib.hid (HL2.out.on HB11.out)
      go_wp2_with fail
      generalize hwd : (⟨#[100, 101, 110, 121]⟩ : ByteArray) = wd at *
      have HW := Lib.hid hwd
      have hw5 : wd.size ≤ 5 := by rw [← hwd]; decide
      clear hwd
      clear q_bs0 q_bs1 q_bs2
      have r_bs0 := fun d os => cell_regrown (v := .bool false) (bs.cell 0) d os
      have r_bs1 := fun d os => cell_regrown (v := .slice A s.ac.length c) (bs.cell 1) d os
      have r_bs2 := fun d os => cell_regrown (v := .slice A2 s.re.length c2) (bs.cell 2) d os
      refine wp_region_quiet_below (by kernel_rfl) (by kernel_rfl) ?_
      repeat (go_big_quiet_step ((go_at_call 33; first | (with_reducible exact HJ1.out _ _ _ HS1.out) | (with_reducible exact HJ2.out _ _ _ HS2.out))))
      refine wpQuiet_nil ?_
      intro _ hw'
      obtain ⟨⟨dq, osq⟩, hw''⟩ := hw'
      subst hw''
      have hb := below_regrown w11 dq osq
      have bs : Blk (Go.Sort.grow (redrawn w11 dq) osq) (w.heap.size) 31 #[.bool false, .slice A s.ac.length c, .slice A2 s.re.length c2] := bs.on hb
      have HB12 := Lib.hid ((HB11.out).trans (hb.mono (by first | exact Nat.le_refl _ | omega | (simp; done) | (simp; omega))))
      clear hb r_bs0 r_bs1 r_bs2
      generalize Go.Sort.grow (redrawn w11 dq) osq = w12 at *
      have hz12 : w.heap.size ≤ w12.heap.size := HB12.out.size
      go_wp2_with fail
      exact bodyPost_ret (v := .tuple #[.string _, .int .i64 0]) (by simp [results, Tryd.results14, go_sem]) rfl ⟨ret_tupF HD.out, HB12.out⟩
    · have HD := Lib.hid (fm_good (a := ⟨#[97, 108, 108, 111, 119]⟩) HC.out (by rw [HAL.out]; rfl))
      rw [HE1.out, HE2.out] at HD
      have q_bs0 : w11.cell? ⟨w.heap.size, 0, none⟩ = some (.bool true) := bs.cell 0
      have q_bs1 : w11.cell? ⟨w.heap.size, 1, none⟩ = some (.slice A s.ac.length c) := bs.cell 1
      have q_bs2 : w11.cell? ⟨w.heap.size, 2, none⟩ = some (.slice A2 s.re.length c2) := bs.cell 2
      have HS1 := Lib.hid (HL1.out.on HB11.out)
      have HS2 := Lib.hid (HL2.out.on HB11.out)
      go_wp2_with fail
      generalize hwd : (⟨#[97, 108, 108, 111, 119]⟩ : ByteArray) = wd at *
      have HW := Lib.hid hwd
      have hw5 : wd.size ≤ 5 := by rw [← hwd]; decide
      clear hwd
      clear q_bs0 q_bs1 q_bs2
      have r_bs0 := fun d os => cell_regrown (v := .bool true) (bs.cell 0) d os
      have r_bs1 := fun d os => cell_regrown (v := .slice A s.ac.length c) (bs.cell 1) d os
      have r_bs2 := fun d os => cell_regrown (v := .slice A2 s.re.length c2) (bs.cell 2) d os
      refine wp_region_quiet_below (by kernel_rfl) (by kernel_rfl) ?_
      repeat (go_big_quiet_step ((go_at_call 33; first | (with_reducible exact HJ1.out _ _ _ HS1.out) | (with_reducible exact HJ2.out _ _ _ HS2.out))))
      refine wpQuiet_nil ?_
      intro _ hw'
      obtain ⟨⟨dq, osq⟩, hw''⟩ := hw'
      subst hw''
      have hb := below_regrown w11 dq osq
      have bs : Blk (Go.Sort.grow (redrawn w11 dq) osq) (w.heap.size) 31 #[.bool true, .slice A s.ac.length c, .slice A2 s.re.length c2] := bs.on hb
      have HB12 := Lib.hid ((HB11.out).trans (hb.mono (by first | exact Nat.le_refl _ | omega | (simp; done) | (simp; omega))))
      clear hb r_bs0 r_bs1 r_bs2
      generalize Go.Sort.grow (redrawn w11 dq) osq = w12 at *
      have hz12 : w.heap.size ≤ w12.heap.size := HB12.out.size
      go_wp2_with fail
      exact bodyPost_ret (v := .tuple #[.string _, .int .i64 0]) (by simp [results, Tryd.results14, go_sem]) rfl ⟨ret_tupF HD.out, HB12.out⟩
  · have HD := Lib.hid (fm_bad hc (by decide))
    rw [hc]
    clear hc
    go_wp2_with fail
    exact bodyPost_ret (v := .tuple #[.string ⟨#[]⟩, .int .i64 3]) (by simp [results, Tryd.results14, go_sem]) rfl ⟨ret_tupF HD.out, HB11.out⟩
  · have HD := Lib.hid (fm_bad hc (by decide))
    rw [hc]
    clear hc
    go_wp2_with fail
    exact bodyPost_ret (v := .tuple #[.string ⟨#[]⟩, .int .i64 4]) (by simp [results, Tryd.results14, go_sem]) rfl ⟨ret_tupF HD.out, HB11.out⟩
end Go.Proofs.YtcmlgiilifdnfaaDoor
