/- The reference's Text. -/
import Derived.Test.YtbofclohnmojmaaGreatDoorRB6
namespace Go.Proofs.YtbofclohnmojmaaGreatDoor
open Go.RowKit
open Go.Sort (grow)

/-- Small cells. -/
def smC (x : Cel) : Prop := x.s.size ≤ 200 ∧ okC x
theorem sz_bnd {x : Cel} (h : smC x) (hp : x.pl = true) : 0 ≤ x.sz ∧ (x.k ≠ 5 ∧ x.k ≠ 6 → x.sz ≤ 800) ∧ (x.k = 5 ∨ x.k = 6 → x.sz = 2 + max 0 (x.n - 1)) := by
  obtain ⟨hs, hi, hn, -⟩ := h
  have hk := (pl_kind hp).1
  have hn0 := (pl_n hp).1
  have hq := qtN_le x.s
  have hl := Lib.itoa_length_le x.i (by omega) (by omega)
  unfold Cel.sz szI
  refine ⟨?_, ?_, ?_⟩
  · split
    · decide
    · split
      · rename_i h2; have := hk h2; omega
      · split
        · omega
        · split <;> omega
  · rintro ⟨h5, h6⟩
    have hp2 := hp
    unfold Cel.pl plI at hp2
    split
    · decide
    · split
      · rename_i h2; have := hk h2; omega
      · split
        · omega
        · split
          · omega
          · rename_i g1 g2 g3 g4
            rw [if_neg g1, if_neg g2, if_neg g3, if_neg g4, if_neg (by omega)] at hp2
            cases hp2
  · intro h56
    rw [if_neg (by omega), if_neg (by omega), if_neg (by omega), if_neg (by omega)]
theorem els_tx {g : List Cel → Option (List Cel × Int × Int)} (hg : ∀ l l1 a b, (∀ x ∈ l, smC x) → g l = some (l1, a, b) → 0 ≤ b ∧ b + 100 + 1000 * l1.length ≤ 1000 * l.length ∧ ∃ q, l = q ++ l1) : ∀ (n : Nat) (l l1 : List Cel) (a b : Int), (∀ x ∈ l, smC x) → els g n l = some (l1, a, b) → 0 ≤ b ∧ b + 100 * n + 1000 * l1.length ≤ 1000 * l.length ∧ ∃ q, l = q ++ l1
  | 0, l, l1, a, b, _, h => by
    rw [els] at h
    simp only [Option.some.injEq, Prod.mk.injEq] at h
    obtain ⟨rfl, rfl, rfl⟩ := h
    exact ⟨Int.le_refl _, by omega, [], rfl⟩
  | n + 1, l, l1, a, b, hs, h => by
    obtain ⟨l2, a1, b1, a2, b2, h1, h2, rfl, rfl⟩ := els_inv h
    obtain ⟨i1, i2, q, rfl⟩ := hg _ _ _ _ hs h1
    obtain ⟨j1, j2, q2, rfl⟩ := els_tx hg n _ _ _ _ (fun x hx => hs x (List.mem_append_right _ hx)) h2
    exact ⟨by omega, by omega, q ++ q2, by rw [List.append_assoc]⟩
theorem prs_tx {g : List Cel → Option (List Cel × Int × Int)} (hg : ∀ l l1 a b, (∀ x ∈ l, smC x) → g l = some (l1, a, b) → 0 ≤ b ∧ b + 100 + 1000 * l1.length ≤ 1000 * l.length ∧ ∃ q, l = q ++ l1) : ∀ (n : Nat) (st : Bool) (la : ByteArray) (l l1 : List Cel) (a b : Int), (∀ x ∈ l, smC x) → prs g n st la l = some (l1, a, b) → 0 ≤ b ∧ b + 100 * n + 1000 * l1.length ≤ 1000 * l.length ∧ ∃ q, l = q ++ l1
  | 0, st, la, l, l1, a, b, _, h => by
    rw [prs] at h
    simp only [Option.some.injEq, Prod.mk.injEq] at h
    obtain ⟨rfl, rfl, rfl⟩ := h
    exact ⟨Int.le_refl _, by omega, [], rfl⟩
  | n + 1, st, la, l, l1, a, b, hs, h => by
    obtain ⟨x, r, l2, a1, b1, a2, b2, rfl, -, h1, h2, rfl, rfl⟩ := prs_inv h
    obtain ⟨i1, i2, q, rfl⟩ := hg _ _ _ _ (fun y hy => hs y (List.mem_cons_of_mem _ hy)) h1
    obtain ⟨j1, j2, q2, rfl⟩ := prs_tx hg n _ _ _ _ _ _ (fun y hy => hs y (List.mem_cons_of_mem _ (List.mem_append_right _ hy))) h2
    have hq := qtN_le x.s
    have hx := (hs x (List.mem_cons_self ..)).1
    exact ⟨by omega, by simp only [List.length_cons]; omega, x :: (q ++ q2), by rw [List.cons_append, List.append_assoc]⟩
theorem vx_tx : ∀ (f : Nat) (l l1 : List Cel) (a b : Int), (∀ x ∈ l, smC x) → vx f l = some (l1, a, b) → 0 ≤ b ∧ b + 100 + 1000 * l1.length ≤ 1000 * l.length ∧ ∃ q, l = q ++ l1
  | 0, l, l1, a, b, _, h => by rw [vx] at h; simp at h
  | f + 1, l, l1, a, b, hs, h => by
    obtain ⟨x, r, rfl, hp, hc⟩ := vx_inv h
    obtain ⟨z0, z1, z2⟩ := sz_bnd (hs x (List.mem_cons_self ..)) hp
    have hn0 := (pl_n hp).1
    rcases hc with ⟨h5, a0, b0, he, rfl, rfl⟩ | ⟨h6, a0, b0, he, rfl, rfl⟩ | ⟨h5, h6, rfl, rfl, rfl⟩
    · obtain ⟨i1, i2, q, rfl⟩ := els_tx (vx_tx f) _ _ _ _ _ (fun y hy => hs y (List.mem_cons_of_mem _ hy)) he
      have := z2 (.inl h5)
      exact ⟨by omega, by simp only [List.length_cons]; omega, x :: q, rfl⟩
    · obtain ⟨i1, i2, q, rfl⟩ := prs_tx (vx_tx f) _ _ _ _ _ _ _ (fun y hy => hs y (List.mem_cons_of_mem _ hy)) he
      have := z2 (.inr h6)
      exact ⟨by omega, by simp only [List.length_cons]; omega, x :: q, rfl⟩
    · have := z1 ⟨h5, h6⟩
      exact ⟨by omega, by simp only [List.length_cons]; omega, [x], rfl⟩
theorem tx5_c {t t1 : ByteArray} {kk : Nat} {b0 b1 b3 : Int} (h : (t.size : Int) = b0 - (b1 + b3) + max 0 ((kk : Int) - 1)) (h1 : (t1.size : Int) = b1) (hk : 0 < kk) : ((t ++ ⟨#[44]⟩ ++ t1).size : Int) = b0 - b3 + max 0 (((kk + 1 : Nat) : Int) - 1) := by
  have e : (t ++ ⟨#[44]⟩ ++ t1).size = t.size + 1 + t1.size := by rw [ByteArray.size_append, ByteArray.size_append]; rfl
  rw [e]
  omega
theorem tx5_n {t t1 : ByteArray} {kk : Nat} {b0 b1 b3 : Int} (h : (t.size : Int) = b0 - (b1 + b3) + max 0 ((kk : Int) - 1)) (h1 : (t1.size : Int) = b1) (hk : ¬ 0 < kk) : ((t ++ t1).size : Int) = b0 - b3 + max 0 (((kk + 1 : Nat) : Int) - 1) := by
  rw [ByteArray.size_append]
  omega
theorem tx6_c {t t1 tq : ByteArray} {kk q : Nat} {b0 b1 b3 : Int} (h : (t.size : Int) = b0 - ((q : Int) + 1 + b1 + b3) + max 0 ((kk : Int) - 1)) (h1 : (t1.size : Int) = b1) (hq : tq.size = q) (hk : 0 < kk) : ((t ++ ⟨#[44]⟩ ++ tq ++ ⟨#[58]⟩ ++ t1).size : Int) = b0 - b3 + max 0 (((kk + 1 : Nat) : Int) - 1) := by
  have e : (t ++ ⟨#[44]⟩ ++ tq ++ ⟨#[58]⟩ ++ t1).size = t.size + 1 + tq.size + 1 + t1.size := by rw [ByteArray.size_append, ByteArray.size_append, ByteArray.size_append, ByteArray.size_append]; rfl
  rw [e]
  omega
theorem tx6_n {t t1 tq : ByteArray} {kk q : Nat} {b0 b1 b3 : Int} (h : (t.size : Int) = b0 - ((q : Int) + 1 + b1 + b3) + max 0 ((kk : Int) - 1)) (h1 : (t1.size : Int) = b1) (hq : tq.size = q) (hk : ¬ 0 < kk) : ((t ++ tq ++ ⟨#[58]⟩ ++ t1).size : Int) = b0 - b3 + max 0 (((kk + 1 : Nat) : Int) - 1) := by
  have e : (t ++ tq ++ ⟨#[58]⟩ ++ t1).size = t.size + tq.size + 1 + t1.size := by rw [ByteArray.size_append, ByteArray.size_append, ByteArray.size_append]; rfl
  rw [e]
  omega
section
variable {A : Option Addr} {c : Nat} {v : List Cel}
/-- In the loops of Text. -/
def TxR5 (f : Nat) (v l1 : List Cel) (n b0 : Int) (ix : Nat) (w1 : World) (v6 v7 v8 : Value) (wr : World) : Prop :=
  ∃ (kk j : Nat) (t : ByteArray) (a2 b2 : Int), kk ≤ n.toNat ∧ j ≤ v.length ∧ ix + 1 ≤ j ∧ v6 = .string t ∧ v7 = .int .i64 j ∧ v8 = .int .i64 kk ∧ els (vx f) (n.toNat - kk) (v.drop j) = some (l1, a2, b2) ∧ (t.size : Int) = b0 - b2 + max 0 ((kk : Int) - 1) ∧ Below w1.heap.size w1 wr
def TxR6 (f : Nat) (v l1 : List Cel) (n b0 : Int) (ix : Nat) (w1 : World) (v6 v7 v8 : Value) (wr : World) : Prop :=
  ∃ (kk j : Nat) (t : ByteArray) (a2 b2 : Int) (st : Bool) (la : ByteArray), kk ≤ n.toNat ∧ j ≤ v.length ∧ ix + 1 ≤ j ∧ v6 = .string t ∧ v7 = .int .i64 j ∧ v8 = .int .i64 kk ∧ prs (vx f) (n.toNat - kk) st la (v.drop j) = some (l1, a2, b2) ∧ (t.size : Int) = b0 - b2 + max 0 ((kk : Int) - 1) ∧ Below w1.heap.size w1 wr
/-- The contract of Text at a fuel. -/
def TxC (f : Nat) (A : Option Addr) (c : Nat) (v : List Cel) : Prop := ∀ (i : Nat) (w : World) (l1 : List Cel) (a b : Int), vx f (v.drop i) = some (l1, a, b) → (v.drop i).length < f → CelL w w.heap.size A v → LaidW w →
  Calls Tryz.prog 97 #[.slice A v.length c, .int .i64 i] w fun e w' => ∃ t : ByteArray, e = .returned (.string t) ∧ (t.size : Int) = b ∧ Below w.heap.size w w'
theorem sm_drop {v : List Cel} (h : ∀ x ∈ v, smC x) (i : Nat) : ∀ x ∈ v.drop i, smC x := fun x hx => h x (List.mem_of_mem_drop hx)
set_option maxHeartbeats 16000000 in
set_option maxRecDepth 20000 in
theorem TxC.succ {f : Nat} (hL : TxC f A c v) (hsm : ∀ x ∈ v, smC x) (hv : v.length ≤ 1048576) : TxC (f + 1) A c v := by
  intro ix w l1 a b hvx hf hl hX
  obtain ⟨x, r, hd, hp, hcase⟩ := vx_inv hvx
  obtain ⟨hlt, hx, rfl⟩ := drop_lt hd
  rw [List.length_drop] at hf
  obtain ⟨bk, o, rfl, hbB, q0, q1, q2, q3⟩ := CelL.cell hl hx
  have hxm := List.mem_of_getElem? hx
  have hn0 := (pl_n hp).1
  have hn9 := (hsm x hxm).2.2.1.2
  have hi9 := (hsm x hxm).2.1
  have hs9 := (hsm x hxm).1
  have hkb := (pl_kind hp).1
  have HTX := Lib.hid hL
  have HNX := Lib.hid (Next_all (A := some ⟨bk, o, none⟩) (c := c) (fun y hy => (hsm y hy).2) (Nat.le_trans hv (by decide)) f)
  have HL := Lib.hid hl
  have HX := Lib.hid hX.below_
  have HSM := Lib.hid hsm
  have HPL := Lib.hid hp
  clear hL hl hd hp hvx hx hxm hX hsm
  obtain ⟨k, i, s, n⟩ := x
  simp only at q0 q1 q2 q3 hcase hn0 hn9 hi9 hs9 hkb
  have HA := Lib.hid (show -9223372036854775808 ≤ (ix : Int) + 1 ∧ (ix : Int) + 1 ≤ 9223372036854775807 by omega)
  have dj2 : ((ix : Int) < v.length) := by omega
  have hj0 : (0 : Int) ≤ ix := by omega
  rcases hcase with ⟨rfl, a0, b0, he, rfl, rfl⟩ | ⟨rfl, a0, b0, he, rfl, rfl⟩ | ⟨h5, h6, -, rfl, rfl⟩
  · have HE := Lib.hid he
    clear he hkb
    as_aux_lemma =>
      have HLB := Lib.hid (els_tx (vx_tx f) _ _ _ _ _ (sm_drop HSM.out _) HE.out)
      go_enter Tryz.func97, Tryz.ntmps97
      go_upto_region 12 with fail
      have bx := Blk.new w 94 #[.int .i64 5, .int .i64 i, .string s, .int .i64 n]
      have hb0 := al_new w (.cells #[.int .i64 5, .int .i64 i, .string s, .int .i64 n] 94)
      have HB0 := Lib.hid hb0
      clear hb0 q0 q1 q2 q3
      generalize (w.alloc (.cells #[.int .i64 5, .int .i64 i, .string s, .int .i64 n] 94)) = w1 at *
      have hz1 : w.heap.size ≤ w1.heap.size := HB0.out.size
      obtain ⟨wi1, wi2⟩ := w64 (x := (ix : Int) + 1) HA.out.1 HA.out.2
      go_wp2_with fail
      clear wi1 wi2
      have HI1 := Lib.hid (show (((ix + 1 : Nat) : Int)) = (ix : Int) + 1 by omega)
      go_loopw [6, 7, 8] (fun v6 v7 v8 wr => TxR5 f v l1 n b0 ix w1 v6 v7 v8 wr) (fun _ _ k _ => n.toNat - (intOf k).toNat)
      case atStart => exact ⟨0, ix + 1, ⟨#[]⟩, a0, b0, Nat.zero_le _, by omega, Nat.le_refl _, rfl, congrArg (Value.int .i64) HI1.out.symm, rfl, HE.out, by have e0 : ((⟨#[]⟩ : ByteArray).size : Int) = 0 := rfl; omega, Below.refl _ _⟩
      case round =>
        obtain ⟨kk, j, t, a2, b2, hkk, hj, hij, rfl, rfl, rfl, he, hts, hb⟩ := hrel
        have HB := Lib.hid hb
        have HBW := Lib.hid (HB0.out.trans (hb.mono hz1))
        have bx := bx.on hb
        have e0 : wr.cell? ⟨w.heap.size, 0, none⟩ = some (.int .i64 5) := bx.cell 0
        have e3 : wr.cell? ⟨w.heap.size, 3, none⟩ = some (.int .i64 n) := bx.cell 3
        have hb2b := els_tx (vx_tx f) _ _ _ _ _ (sm_drop HSM.out _) he
        have hblb := HLB.out
        rw [List.length_drop] at hb2b hblb
        have HTL := Lib.hid (show t.size ≤ 2147483648 by omega)
        clear hb
        by_cases hlt2 : (kk : Int) < n
        · have hm : n.toNat - kk = (n.toNat - (kk + 1)) + 1 := by omega
          rw [hm] at he
          have hkn : kk + 1 ≤ n.toNat := by omega
          have hk1 : (kk : Int) + 1 ≤ 9223372036854775807 := by omega
          clear hm
          obtain ⟨l2, a1, b1, a3, b3, h1, h2, rfl, rfl⟩ := els_inv he
          have hfj : (v.drop j).length < f := by rw [List.length_drop]; omega
          obtain ⟨hsuf, hlt1⟩ := vx_suf hfj h1
          obtain ⟨hdr, hle1⟩ := drop_of hsuf (by omega)
          have htb := vx_tx _ _ _ _ _ (sm_drop HSM.out _) h1
          rw [List.length_drop] at hlt1 htb
          obtain ⟨j2, hj2⟩ : ∃ j2 : Nat, v.length - l2.length = j2 := ⟨_, rfl⟩
          have hix : ixR v.length (vx f (v.drop j)) = (j2 : Int) := by rw [h1]; show ((v.length - l2.length : Nat) : Int) = _; rw [hj2]
          rw [hj2] at hdr
          rw [hdr] at h2
          have HH2 := Lib.hid h2
          have HC1 := Lib.hid (fun (W : World) (hW : Below w.heap.size w W) => HTX.out j W l2 a1 b1 h1 hfj (HL.out.on hW) (HX.out.on hW).at_)
          have HC2 := Lib.hid (fun (W : World) (hW : Below w.heap.size w W) => HNX.out j W (by omega) hfj (HL.out.on hW))
          rw [hix] at HC2
          have hj2l : j2 ≤ v.length := by omega
          have hj2i : ix + 1 ≤ j2 := by omega
          have HJ1 := Lib.hid (show -9223372036854775808 ≤ (j : Int) + 1 ∧ (j : Int) + 1 ≤ 9223372036854775807 by omega)
          have HKW := Lib.hid (w64 (x := (kk : Int) + 1) (by omega) hk1)
          have HB1 := Lib.hid (show 0 ≤ b1 ∧ b1 ≤ 2147483648 from ⟨htb.1, by omega⟩)
          have HTS := Lib.hid hts
          have htl := HTL.out
          clear h1 h2 hsuf hdr hle1 hlt1 hj2 hix hfj htb hb2b hblb hts
          by_cases hk0 : 0 < kk
          · have dk : decide ((0 : Int) < (kk : Int)) = true := decide_eq_true (by omega)
            have dkn : decide (0 < kk) = true := decide_eq_true hk0
            have HK0 := Lib.hid hk0
            clear hk0
            go_wp2_with fail
            refine (HC1.out wr HBW.out).mono ?_
            rintro e w2 ⟨t1, rfl, ht1, hb2⟩
            have HB2 := Lib.hid (HB.out.trans (hb2.mono HB.out.size))
            have HBW2 := Lib.hid (HBW.out.trans (hb2.mono HBW.out.size))
            have e3 : w2.cell? ⟨w.heap.size, 3, none⟩ = some (.int .i64 n) := (bx.on hb2).cell 3
            have HT1 := Lib.hid ht1
            have ht1l : t1.size ≤ 2147483648 := by have := HB1.out; omega
            clear hb2 ht1
            go_wp2_with fail
            refine (HC2.out w2 HBW2.out).mono ?_
            rintro e w3 ⟨rfl, hb3⟩
            have HB3 := Lib.hid (HB2.out.trans (hb3.mono HB2.out.size))
            clear hb3
            obtain ⟨wk1, wk2⟩ := HKW.out
            go_wp2_with fail
            clear wk1 wk2
            go_roundw
            case rel => exact ⟨kk + 1, j2, _, a3, b3, hkn, hj2l, hj2i, rfl, rfl, by first | rfl | go_num, HH2.out, tx5_c HTS.out HT1.out HK0.out, HB3.out⟩
            case measure => simp [intOf] <;> omega
          · have dk : decide ((0 : Int) < (kk : Int)) = false := decide_eq_false (by omega)
            have dkn : decide (0 < kk) = false := decide_eq_false hk0
            have HK0 := Lib.hid hk0
            clear hk0
            go_wp2_with fail
            refine (HC1.out wr HBW.out).mono ?_
            rintro e w2 ⟨t1, rfl, ht1, hb2⟩
            have HB2 := Lib.hid (HB.out.trans (hb2.mono HB.out.size))
            have HBW2 := Lib.hid (HBW.out.trans (hb2.mono HBW.out.size))
            have e3 : w2.cell? ⟨w.heap.size, 3, none⟩ = some (.int .i64 n) := (bx.on hb2).cell 3
            have HT1 := Lib.hid ht1
            have ht1l : t1.size ≤ 2147483648 := by have := HB1.out; omega
            clear hb2 ht1
            go_wp2_with fail
            refine (HC2.out w2 HBW2.out).mono ?_
            rintro e w3 ⟨rfl, hb3⟩
            have HB3 := Lib.hid (HB2.out.trans (hb3.mono HB2.out.size))
            clear hb3
            obtain ⟨wk1, wk2⟩ := HKW.out
            go_wp2_with fail
            clear wk1 wk2
            go_roundw
            case rel => exact ⟨kk + 1, j2, _, a3, b3, hkn, hj2l, hj2i, rfl, rfl, by first | rfl | go_num, HH2.out, tx5_n HTS.out HT1.out HK0.out, HB3.out⟩
            case measure => simp [intOf] <;> omega
        · have hz : n.toNat - kk = 0 := by omega
          rw [hz] at he
          have d0 : decide ((kk : Int) < n) = false := decide_eq_false hlt2
          have ha2 : b2 = 0 := by
            rw [els] at he; simp only [Option.some.injEq, Prod.mk.injEq] at he; omega
          subst ha2
          have HFIN := Lib.hid (show (t.size : Int) + 2 = (⟨5, i, s, n⟩ : Cel).sz + b0 by
            show _ = (2 + max 0 (n - 1)) + b0
            omega)
          have htl := HTL.out
          clear he hz hts hb2b hblb
          go_wp2_with fail
          go_ret
          exact ⟨_, rfl, by rw [← HFIN.out, ByteArray.size_append, ByteArray.size_append]; show ((1 + t.size + 1 : Nat) : Int) = _; omega, HBW.out⟩
  · have HE := Lib.hid he
    clear he hkb
    as_aux_lemma =>
      have HLB := Lib.hid (prs_tx (vx_tx f) _ _ _ _ _ _ _ (sm_drop HSM.out _) HE.out)
      go_enter Tryz.func97, Tryz.ntmps97
      go_upto_region 12 with fail
      have bx := Blk.new w 94 #[.int .i64 6, .int .i64 i, .string s, .int .i64 n]
      have hb0 := al_new w (.cells #[.int .i64 6, .int .i64 i, .string s, .int .i64 n] 94)
      have HB0 := Lib.hid hb0
      clear hb0 q0 q1 q2 q3
      generalize (w.alloc (.cells #[.int .i64 6, .int .i64 i, .string s, .int .i64 n] 94)) = w1 at *
      have hz1 : w.heap.size ≤ w1.heap.size := HB0.out.size
      obtain ⟨wi1, wi2⟩ := w64 (x := (ix : Int) + 1) HA.out.1 HA.out.2
      go_wp2_with fail
      clear wi1 wi2
      have HI1 := Lib.hid (show (((ix + 1 : Nat) : Int)) = (ix : Int) + 1 by omega)
      go_loopw [6, 7, 8] (fun v6 v7 v8 wr => TxR6 f v l1 n b0 ix w1 v6 v7 v8 wr) (fun _ _ k _ => n.toNat - (intOf k).toNat)
      case atStart => exact ⟨0, ix + 1, ⟨#[]⟩, a0, b0, false, ⟨#[]⟩, Nat.zero_le _, by omega, Nat.le_refl _, rfl, congrArg (Value.int .i64) HI1.out.symm, rfl, HE.out, by have e0 : ((⟨#[]⟩ : ByteArray).size : Int) = 0 := rfl; omega, Below.refl _ _⟩
      case round =>
        obtain ⟨kk, j, t, a2, b2, st, la, hkk, hj, hij, rfl, rfl, rfl, he, hts, hb⟩ := hrel
        have HB := Lib.hid hb
        have HBW := Lib.hid (HB0.out.trans (hb.mono hz1))
        have bx := bx.on hb
        have e0 : wr.cell? ⟨w.heap.size, 0, none⟩ = some (.int .i64 6) := bx.cell 0
        have e3 : wr.cell? ⟨w.heap.size, 3, none⟩ = some (.int .i64 n) := bx.cell 3
        have hb2b := prs_tx (vx_tx f) _ _ _ _ _ _ _ (sm_drop HSM.out _) he
        have hblb := HLB.out
        rw [List.length_drop] at hb2b hblb
        have HTL := Lib.hid (show t.size ≤ 2147483648 by omega)
        clear hb
        by_cases hlt2 : (kk : Int) < n
        · have hm : n.toNat - kk = (n.toNat - (kk + 1)) + 1 := by omega
          rw [hm] at he
          have hkn : kk + 1 ≤ n.toNat := by omega
          have hk1 : (kk : Int) + 1 ≤ 9223372036854775807 := by omega
          clear hm
          obtain ⟨y, r9, l2, a1, b1, a3, b3, hy, -, h1, h2, rfl, rfl⟩ := prs_inv he
          obtain ⟨hjl, hyx, rfl⟩ := drop_lt hy
          have hfj : (v.drop (j + 1)).length < f := by rw [List.length_drop]; omega
          obtain ⟨hsuf, hlt1⟩ := vx_suf hfj h1
          obtain ⟨hdr, hle1⟩ := drop_of hsuf (by omega)
          have htb := vx_tx _ _ _ _ _ (sm_drop HSM.out _) h1
          rw [List.length_drop] at hlt1 htb
          obtain ⟨j2, hj2⟩ : ∃ j2 : Nat, v.length - l2.length = j2 := ⟨_, rfl⟩
          have hix : ixR v.length (vx f (v.drop (j + 1))) = (j2 : Int) := by rw [h1]; show ((v.length - l2.length : Nat) : Int) = _; rw [hj2]
          rw [hj2] at hdr
          rw [hdr] at h2
          have HH2 := Lib.hid h2
          have HC1 := Lib.hid (fun (W : World) (hW : Below w.heap.size w W) => HTX.out (j + 1) W l2 a1 b1 h1 hfj (HL.out.on hW) (HX.out.on hW).at_)
          have HC2 := Lib.hid (fun (W : World) (hW : Below w.heap.size w W) => HNX.out (j + 1) W (by omega) hfj (HL.out.on hW))
          rw [hix] at HC2
          have hj2l : j2 ≤ v.length := by omega
          have hj2i : ix + 1 ≤ j2 := by omega
          have HJ1 := Lib.hid (show -9223372036854775808 ≤ (j : Int) + 1 ∧ (j : Int) + 1 ≤ 9223372036854775807 by omega)
          have HKW := Lib.hid (w64 (x := (kk : Int) + 1) (by omega) hk1)
          have HB1 := Lib.hid (show 0 ≤ b1 ∧ b1 ≤ 2147483648 from ⟨htb.1, by omega⟩)
          have HTS := Lib.hid hts
          have htl := HTL.out
          obtain ⟨b9, o9, e9, hbB9, -, -, y2, -⟩ := CelL.cell (HL.out.on HBW.out) hyx
          injection e9 with e9
          injection e9 with e9a e9b _
          subst e9a e9b
          have hys := (HSM.out y (List.mem_of_getElem? hyx)).1
          have hjI : (((j + 1 : Nat) : Int)) = (j : Int) + 1 := by omega
          rw [hjI] at HC1 HC2
          clear h1 h2 hsuf hdr hle1 hlt1 hj2 hix hfj htb hb2b hblb hts hy hyx
          by_cases hk0 : 0 < kk
          · have dk : decide ((0 : Int) < (kk : Int)) = true := decide_eq_true (by omega)
            have dkn : decide (0 < kk) = true := decide_eq_true hk0
            have HK0 := Lib.hid hk0
            clear hk0
            go_wp2_with fail
            refine (rquoted_any y.s _ (by omega)).mono ?_
            rintro e wk ⟨tq, rfl, htq, hbq⟩
            have HBk := Lib.hid (HB.out.trans (hbq.mono HB.out.size))
            have HBWk := Lib.hid (HBW.out.trans (hbq.mono HBW.out.size))
            have bx := bx.on hbq
            have HTQ := Lib.hid htq
            have hql := qtN_le y.s
            have htql : tq.size ≤ 2147483648 := by omega
            clear hbq htq hql
            obtain ⟨wj1, wj2⟩ := w64 (x := (j : Int) + 1) HJ1.out.1 HJ1.out.2
            go_wp2_with fail
            clear wj1 wj2
            refine (HC1.out wk HBWk.out).mono ?_
            rintro e w2 ⟨t1, rfl, ht1, hb2⟩
            have HB2 := Lib.hid (HBk.out.trans (hb2.mono HBk.out.size))
            have HBW2 := Lib.hid (HBWk.out.trans (hb2.mono HBWk.out.size))
            have e3 : w2.cell? ⟨w.heap.size, 3, none⟩ = some (.int .i64 n) := (bx.on hb2).cell 3
            have HT1 := Lib.hid ht1
            have ht1l : t1.size ≤ 2147483648 := by have := HB1.out; omega
            clear hb2 ht1
            go_wp2_with fail
            refine (HC2.out w2 HBW2.out).mono ?_
            rintro e w3 ⟨rfl, hb3⟩
            have HB3 := Lib.hid (HB2.out.trans (hb3.mono HB2.out.size))
            clear hb3
            obtain ⟨wk1, wk2⟩ := HKW.out
            go_wp2_with fail
            clear wk1 wk2
            go_roundw
            case rel => exact ⟨kk + 1, j2, _, a3, b3, true, y.s, hkn, hj2l, hj2i, rfl, rfl, by first | rfl | go_num, HH2.out, tx6_c HTS.out HT1.out HTQ.out HK0.out, HB3.out⟩
            case measure => simp [intOf] <;> omega
          · have dk : decide ((0 : Int) < (kk : Int)) = false := decide_eq_false (by omega)
            have dkn : decide (0 < kk) = false := decide_eq_false hk0
            have HK0 := Lib.hid hk0
            clear hk0
            go_wp2_with fail
            refine (rquoted_any y.s _ (by omega)).mono ?_
            rintro e wk ⟨tq, rfl, htq, hbq⟩
            have HBk := Lib.hid (HB.out.trans (hbq.mono HB.out.size))
            have HBWk := Lib.hid (HBW.out.trans (hbq.mono HBW.out.size))
            have bx := bx.on hbq
            have HTQ := Lib.hid htq
            have hql := qtN_le y.s
            have htql : tq.size ≤ 2147483648 := by omega
            clear hbq htq hql
            obtain ⟨wj1, wj2⟩ := w64 (x := (j : Int) + 1) HJ1.out.1 HJ1.out.2
            go_wp2_with fail
            clear wj1 wj2
            refine (HC1.out wk HBWk.out).mono ?_
            rintro e w2 ⟨t1, rfl, ht1, hb2⟩
            have HB2 := Lib.hid (HBk.out.trans (hb2.mono HBk.out.size))
            have HBW2 := Lib.hid (HBWk.out.trans (hb2.mono HBWk.out.size))
            have e3 : w2.cell? ⟨w.heap.size, 3, none⟩ = some (.int .i64 n) := (bx.on hb2).cell 3
            have HT1 := Lib.hid ht1
            have ht1l : t1.size ≤ 2147483648 := by have := HB1.out; omega
            clear hb2 ht1
            go_wp2_with fail
            refine (HC2.out w2 HBW2.out).mono ?_
            rintro e w3 ⟨rfl, hb3⟩
            have HB3 := Lib.hid (HB2.out.trans (hb3.mono HB2.out.size))
            clear hb3
            obtain ⟨wk1, wk2⟩ := HKW.out
            go_wp2_with fail
            clear wk1 wk2
            go_roundw
            case rel => exact ⟨kk + 1, j2, _, a3, b3, true, y.s, hkn, hj2l, hj2i, rfl, rfl, by first | rfl | go_num, HH2.out, tx6_n HTS.out HT1.out HTQ.out HK0.out, HB3.out⟩
            case measure => simp [intOf] <;> omega
        · have hz : n.toNat - kk = 0 := by omega
          rw [hz] at he
          have d0 : decide ((kk : Int) < n) = false := decide_eq_false hlt2
          have ha2 : b2 = 0 := by
            rw [prs] at he; simp only [Option.some.injEq, Prod.mk.injEq] at he; omega
          subst ha2
          have HFIN := Lib.hid (show (t.size : Int) + 2 = (⟨6, i, s, n⟩ : Cel).sz + b0 by
            show _ = (2 + max 0 (n - 1)) + b0
            omega)
          have htl := HTL.out
          clear he hz hts hb2b hblb
          go_wp2_with fail
          go_ret
          exact ⟨_, rfl, by rw [← HFIN.out, ByteArray.size_append, ByteArray.size_append]; show ((1 + t.size + 1 : Nat) : Int) = _; omega, HBW.out⟩
  · as_aux_lemma =>
      by_cases h1 : k = 1
      · subst h1
        have HE := Lib.hid (show (4 : Int) = (⟨1, i, s, n⟩ : Cel).sz from rfl)
        go_enter Tryz.func97, Tryz.ntmps97
        go_wp2_with fail
        go_ret
        exact ⟨_, rfl, HE.out, al_new w _⟩
      · have b1 : (k == 1) = false := beq_eq_false_iff_ne.2 h1
        by_cases h2 : k = 2
        · subst h2
          by_cases hi1 : i = 1
          · have f1 : (i == 1) = true := beq_iff_eq.2 hi1
            have HE := Lib.hid (show (4 : Int) = (⟨2, i, s, n⟩ : Cel).sz by rw [hi1]; rfl)
            clear hi1
            go_enter Tryz.func97, Tryz.ntmps97
            go_wp2_with fail
            go_ret
            exact ⟨_, rfl, HE.out, al_new w _⟩
          · have f1 : (i == 1) = false := beq_eq_false_iff_ne.2 hi1
            have HE := Lib.hid (show (5 : Int) = (⟨2, i, s, n⟩ : Cel).sz by
              have h0 : i = 0 := by have := hkb rfl; omega
              rw [h0]; rfl)
            clear hi1
            go_enter Tryz.func97, Tryz.ntmps97
            go_wp2_with fail
            go_ret
            exact ⟨_, rfl, HE.out, al_new w _⟩
        · have b2 : (k == 2) = false := beq_eq_false_iff_ne.2 h2
          by_cases h3 : k = 3
          · subst h3
            have HE := Lib.hid (show (((⟨(Lib.itoa i).toArray⟩ : ByteArray).size : Nat) : Int) = (⟨3, i, s, n⟩ : Cel).sz by
              show _ = szI 3 i s n
              unfold szI
              rw [if_neg (show ¬ (3 : Int) = 1 by decide), if_neg (show ¬ (3 : Int) = 2 by decide), if_pos rfl, ← size_len])
            go_enter Tryz.func97, Tryz.ntmps97
            go_wp2_with fail
            refine (Tryz.strconv_Itoa i hi9.1 hi9.2 _ (HX.out.on (al_new w _)).at_.tab).mono ?_
            rintro e w1 ⟨rfl, kq, os, hw1⟩
            have HB := Lib.hid (show Below w.heap.size w w1 by rw [hw1]; exact (al_new w _).trans (Lib.below_grow _ _ (by simp) kq os))
            clear hw1
            generalize (⟨(Lib.itoa i).toArray⟩ : ByteArray) = t at *
            go_wp2_with fail
            go_ret
            exact ⟨_, rfl, HE.out, HB.out⟩
          · have b3 : (k == 3) = false := beq_eq_false_iff_ne.2 h3
            by_cases h4 : k = 4
            · subst h4
              have HE := Lib.hid (show ((qtN s : Nat) : Int) = (⟨4, i, s, n⟩ : Cel).sz by
                show _ = szI 4 i s n
                unfold szI
                rw [if_neg (show ¬ (4 : Int) = 1 by decide), if_neg (show ¬ (4 : Int) = 2 by decide), if_neg (show ¬ (4 : Int) = 3 by decide), if_pos rfl])
              go_enter Tryz.func97, Tryz.ntmps97
              go_wp2_with fail
              refine (rquoted_any s _ (by omega)).mono ?_
              rintro e w1 ⟨t, rfl, ht, hb⟩
              have HT := Lib.hid ht
              have HB := Lib.hid ((al_new w _).trans (hb.mono (by simp)))
              clear hb ht
              go_wp2_with fail
              go_ret
              exact ⟨_, rfl, by rw [HT.out]; exact HE.out, HB.out⟩
            · exfalso
              have := HPL.out
              unfold Cel.pl plI at this
              rw [if_neg h1, if_neg h2, if_neg h3, if_neg h4, if_neg (fun h => h.elim h5 h6)] at this
              cases this
theorem Text_all (hsm : ∀ x ∈ v, smC x) (hv : v.length ≤ 1048576) : ∀ f : Nat, TxC f A c v
  | 0 => fun i w l1 a b _ hf => by omega
  | f + 1 => (Text_all hsm hv f).succ hsm hv
end
end Go.Proofs.YtbofclohnmojmaaGreatDoor
