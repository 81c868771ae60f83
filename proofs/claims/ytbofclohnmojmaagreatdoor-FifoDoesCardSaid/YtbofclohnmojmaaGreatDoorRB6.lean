/- The reference's levels. -/
import Derived.Test.YtbofclohnmojmaaGreatDoorRB5
namespace Go.Proofs.YtbofclohnmojmaaGreatDoor
open Go.RowKit
open Go.Sort (grow)

theorem els_inv {g : List Cel → Option (List Cel × Int × Int)} {n : Nat} {l l1 : List Cel} {a b : Int} (h : els g (n + 1) l = some (l1, a, b)) : ∃ l2 a1 b1 a2 b2, g l = some (l2, a1, b1) ∧ els g n l2 = some (l1, a2, b2) ∧ a = max a1 a2 ∧ b = b1 + b2 := by
  rw [els] at h
  cases hg : g l with
  | none => rw [hg] at h; simp at h
  | some R =>
    obtain ⟨l2, a1, b1⟩ := R
    rw [hg] at h
    simp only at h
    cases he : els g n l2 with
    | none => rw [he] at h; simp at h
    | some R2 =>
      obtain ⟨l3, a2, b2⟩ := R2
      rw [he] at h
      simp only [Option.some.injEq, Prod.mk.injEq] at h
      obtain ⟨rfl, rfl, rfl⟩ := h
      exact ⟨l2, a1, b1, a2, b2, rfl, he, rfl, rfl⟩
theorem prs_inv {g : List Cel → Option (List Cel × Int × Int)} {n : Nat} {st : Bool} {la : ByteArray} {l l1 : List Cel} {a b : Int} (h : prs g (n + 1) st la l = some (l1, a, b)) : ∃ x r l2 a1 b1 a2 b2, l = x :: r ∧ kyB x = true ∧ g r = some (l2, a1, b1) ∧ prs g n true x.s l2 = some (l1, a2, b2) ∧ a = max a1 a2 ∧ b = ((qtN x.s : Nat) : Int) + 1 + b1 + b2 := by
  cases l with
  | nil => rw [prs] at h; simp at h
  | cons x r =>
    rw [prs] at h
    split at h
    · simp at h
    · rename_i hb
      cases hg : g r with
      | none => rw [hg] at h; simp at h
      | some R =>
        obtain ⟨l2, a1, b1⟩ := R
        rw [hg] at h
        simp only at h
        cases he : prs g n true x.s l2 with
        | none => rw [he] at h; simp at h
        | some R2 =>
          obtain ⟨l3, a2, b2⟩ := R2
          rw [he] at h
          simp only [Option.some.injEq, Prod.mk.injEq] at h
          obtain ⟨rfl, rfl, rfl⟩ := h
          refine ⟨x, r, l2, a1, b1, a2, b2, rfl, ?_, hg, he, rfl, rfl⟩
          cases hk : kyB x with
          | true => rfl
          | false => exact absurd (.inl hk) hb
/-- A value, by its first cell. -/
theorem vx_inv {f : Nat} {l l1 : List Cel} {a b : Int} (h : vx (f + 1) l = some (l1, a, b)) : ∃ x r, l = x :: r ∧ x.pl = true ∧
    ((x.k = 5 ∧ ∃ a0 b0, els (vx f) x.n.toNat r = some (l1, a0, b0) ∧ a = a0 + 1 ∧ b = x.sz + b0) ∨
     (x.k = 6 ∧ ∃ a0 b0, prs (vx f) x.n.toNat false ⟨#[]⟩ r = some (l1, a0, b0) ∧ a = a0 + 1 ∧ b = x.sz + b0) ∨
     (x.k ≠ 5 ∧ x.k ≠ 6 ∧ r = l1 ∧ a = 1 ∧ b = x.sz)) := by
  cases l with
  | nil => rw [vx] at h; simp at h
  | cons x r =>
    refine ⟨x, r, rfl, ?_⟩
    rw [vx] at h
    split at h
    · simp at h
    · rename_i hp
      have hp' : x.pl = true := by cases hq : x.pl; exact absurd hq hp; rfl
      refine ⟨hp', ?_⟩
      split at h
      · rename_i h5
        left
        refine ⟨h5, ?_⟩
        cases he : els (vx f) x.n.toNat r with
        | none => rw [he] at h; simp at h
        | some R =>
          obtain ⟨l2, a0, b0⟩ := R
          rw [he] at h
          simp only [Option.some.injEq, Prod.mk.injEq] at h
          obtain ⟨rfl, rfl, rfl⟩ := h
          exact ⟨a0, b0, rfl, rfl, rfl⟩
      · rename_i h5
        right
        split at h
        · rename_i h6
          left
          refine ⟨h6, ?_⟩
          cases he : prs (vx f) x.n.toNat false ⟨#[]⟩ r with
          | none => rw [he] at h; simp at h
          | some R =>
            obtain ⟨l2, a0, b0⟩ := R
            rw [he] at h
            simp only [Option.some.injEq, Prod.mk.injEq] at h
            obtain ⟨rfl, rfl, rfl⟩ := h
            exact ⟨a0, b0, rfl, rfl, rfl⟩
        · rename_i h6
          right
          simp only [Option.some.injEq, Prod.mk.injEq] at h
          obtain ⟨rfl, rfl, rfl⟩ := h
          exact ⟨h5, h6, rfl, rfl, rfl⟩
theorem els_lv {g : List Cel → Option (List Cel × Int × Int)} (hg : ∀ l l1 a b, g l = some (l1, a, b) → 1 ≤ a ∧ a + l1.length ≤ l.length) : ∀ (n : Nat) (l l1 : List Cel) (a b : Int), els g n l = some (l1, a, b) → 0 ≤ a ∧ a + l1.length ≤ l.length
  | 0, l, l1, a, b, h => by
    rw [els] at h
    simp only [Option.some.injEq, Prod.mk.injEq] at h
    obtain ⟨rfl, rfl, rfl⟩ := h
    omega
  | n + 1, l, l1, a, b, h => by
    obtain ⟨l2, a1, b1, a2, b2, h1, h2, rfl, rfl⟩ := els_inv h
    have i1 := hg _ _ _ _ h1
    have i2 := els_lv hg n _ _ _ _ h2
    omega
theorem prs_lv {g : List Cel → Option (List Cel × Int × Int)} (hg : ∀ l l1 a b, g l = some (l1, a, b) → 1 ≤ a ∧ a + l1.length ≤ l.length) : ∀ (n : Nat) (st : Bool) (la : ByteArray) (l l1 : List Cel) (a b : Int), prs g n st la l = some (l1, a, b) → 0 ≤ a ∧ a + l1.length ≤ l.length
  | 0, st, la, l, l1, a, b, h => by
    rw [prs] at h
    simp only [Option.some.injEq, Prod.mk.injEq] at h
    obtain ⟨rfl, rfl, rfl⟩ := h
    omega
  | n + 1, st, la, l, l1, a, b, h => by
    obtain ⟨x, r, l2, a1, b1, a2, b2, rfl, -, h1, h2, rfl, rfl⟩ := prs_inv h
    have i1 := hg _ _ _ _ h1
    have i2 := prs_lv hg n _ _ _ _ _ _ h2
    simp only [List.length_cons]
    omega
theorem vx_lv : ∀ (f : Nat) (l l1 : List Cel) (a b : Int), vx f l = some (l1, a, b) → 1 ≤ a ∧ a + l1.length ≤ l.length
  | 0, l, l1, a, b, h => by rw [vx] at h; simp at h
  | f + 1, l, l1, a, b, h => by
    obtain ⟨x, r, rfl, -, ⟨-, a0, b0, he, rfl, rfl⟩ | ⟨-, a0, b0, he, rfl, rfl⟩ | ⟨-, -, rfl, rfl, rfl⟩⟩ := vx_inv h
    · have := els_lv (vx_lv f) _ _ _ _ _ he
      simp only [List.length_cons]
      omega
    · have := prs_lv (vx_lv f) _ _ _ _ _ _ _ he
      simp only [List.length_cons]
      omega
    · simp only [List.length_cons]
      omega
section
variable {A : Option Addr} {c : Nat} {v : List Cel}
/-- In the loops of levels. -/
def LvR5 (f : Nat) (v l1 : List Cel) (n a0 : Int) (ix : Nat) (w1 : World) (v6 v7 v8 : Value) (wr : World) : Prop :=
  ∃ (kk j : Nat) (m a2 b2 : Int), kk ≤ n.toNat ∧ j ≤ v.length ∧ ix + 1 ≤ j ∧ v6 = .int .i64 m ∧ v7 = .int .i64 j ∧ v8 = .int .i64 kk ∧ els (vx f) (n.toNat - kk) (v.drop j) = some (l1, a2, b2) ∧ max m a2 = a0 ∧ 0 ≤ m ∧ Below w1.heap.size w1 wr
def LvR6 (f : Nat) (v l1 : List Cel) (n a0 : Int) (ix : Nat) (w1 : World) (v6 v7 v8 : Value) (wr : World) : Prop :=
  ∃ (kk j : Nat) (m a2 b2 : Int) (st : Bool) (la : ByteArray), kk ≤ n.toNat ∧ j ≤ v.length ∧ ix + 1 ≤ j ∧ v6 = .int .i64 m ∧ v7 = .int .i64 j ∧ v8 = .int .i64 kk ∧ prs (vx f) (n.toNat - kk) st la (v.drop j) = some (l1, a2, b2) ∧ max m a2 = a0 ∧ 0 ≤ m ∧ Below w1.heap.size w1 wr
/-- The contract of levels at a fuel. -/
def LvC (f : Nat) (A : Option Addr) (c : Nat) (v : List Cel) : Prop := ∀ (i : Nat) (w : World) (l1 : List Cel) (a b : Int), vx f (v.drop i) = some (l1, a, b) → (v.drop i).length < f → CelL w w.heap.size A v →
  Calls Tryz.prog 96 #[.slice A v.length c, .int .i64 i] w fun e w' => e = .returned (.int .i64 a) ∧ Below w.heap.size w w'
theorem drop_lt {v : List Cel} {i : Nat} {x : Cel} {r : List Cel} (h : v.drop i = x :: r) : i < v.length ∧ v[i]? = some x ∧ r = v.drop (i + 1) := by
  have hl := congrArg List.length h
  rw [List.length_drop, List.length_cons] at hl
  have hlt : i < v.length := by omega
  have hx := List.getElem?_eq_getElem hlt
  have h2 := drop_cons2 hx
  rw [h] at h2
  injection h2 with h2 h3
  exact ⟨hlt, by rw [hx, h2], h3⟩
set_option maxHeartbeats 16000000 in
set_option maxRecDepth 20000 in
theorem LvC.succ {f : Nat} (hL : LvC f A c v) (hok : ∀ x ∈ v, okC x) (hv : v.length ≤ 3518437208780) : LvC (f + 1) A c v := by
  intro ix w l1 a b hvx hf hl
  obtain ⟨x, r, hd, hp, hcase⟩ := vx_inv hvx
  obtain ⟨hlt, hx, rfl⟩ := drop_lt hd
  have hbnd := vx_lv _ _ _ _ _ hvx
  rw [List.length_drop] at hbnd hf
  obtain ⟨bk, o, rfl, hbB, q0, q1, q2, q3⟩ := CelL.cell hl hx
  have hn0 := (pl_n hp).1
  have hn9 := (hok x (List.mem_of_getElem? hx)).2.1.2
  have HLV := Lib.hid hL
  have HNX := Lib.hid (Next_all (A := some ⟨bk, o, none⟩) (c := c) hok hv f)
  have HL := Lib.hid hl
  have hkw := (hok x (List.mem_of_getElem? hx))
  clear hL hl hd hp hvx hx
  obtain ⟨k, i, s, n⟩ := x
  simp only at q0 q1 q2 q3 hcase hn0 hn9
  have HA := Lib.hid (show -9223372036854775808 ≤ (ix : Int) + 1 ∧ (ix : Int) + 1 ≤ 9223372036854775807 by omega)
  have HBN := Lib.hid hbnd
  have dj2 : ((ix : Int) < v.length) := by omega
  have hj0 : (0 : Int) ≤ ix := by omega
  clear hkw hok hbnd
  rcases hcase with ⟨rfl, a0, b0, he, rfl, rfl⟩ | ⟨rfl, a0, b0, he, rfl, rfl⟩ | ⟨h5, h6, -, rfl, -⟩
  · have HE := Lib.hid he
    clear he
    as_aux_lemma =>
      have HLB := Lib.hid (els_lv (vx_lv f) _ _ _ _ _ HE.out)
      go_enter Tryz.func96, Tryz.ntmps96
      go_upto_region 4 with fail
      have bx := Blk.new w 94 #[.int .i64 5, .int .i64 i, .string s, .int .i64 n]
      have hb0 := al_new w (.cells #[.int .i64 5, .int .i64 i, .string s, .int .i64 n] 94)
      have HB0 := Lib.hid hb0
      clear hb0 q0 q1 q2 q3
      generalize (w.alloc (.cells #[.int .i64 5, .int .i64 i, .string s, .int .i64 n] 94)) = w1 at *
      have hz1 : w.heap.size ≤ w1.heap.size := HB0.out.size
      obtain ⟨wi1, wi2⟩ := w64 (x := (ix : Int) + 1) HA.out.1 HA.out.2
      go_wp2_with fail
      clear wi1 wi2
      have HI1 := Lib.hid (show (((ix + 1 : Nat) : Int)) = (ix : Int) + 1 by omega)
      go_loopw [6, 7, 8] (fun v6 v7 v8 wr => LvR5 f v l1 n a0 ix w1 v6 v7 v8 wr) (fun _ _ k _ => n.toNat - (intOf k).toNat)
      case atStart => exact ⟨0, ix + 1, 0, a0, b0, Nat.zero_le _, by omega, Nat.le_refl _, rfl, congrArg (Value.int .i64) HI1.out.symm, rfl, HE.out, by have := HLB.out; omega, Int.le_refl _, Below.refl _ _⟩
      case round =>
        obtain ⟨kk, j, m, a2, b2, hkk, hj, hij, rfl, rfl, rfl, he, hmx, hm0, hb⟩ := hrel
        have HB := Lib.hid hb
        have HBW := Lib.hid (HB0.out.trans (hb.mono hz1))
        have bx := bx.on hb
        have e0 : wr.cell? ⟨w.heap.size, 0, none⟩ = some (.int .i64 5) := bx.cell 0
        have e3 : wr.cell? ⟨w.heap.size, 3, none⟩ = some (.int .i64 n) := bx.cell 3
        clear hb
        by_cases hlt2 : (kk : Int) < n
        · have hm : n.toNat - kk = (n.toNat - (kk + 1)) + 1 := by omega
          rw [hm] at he
          have hkn : kk + 1 ≤ n.toNat := by omega
          have hk1 : (kk : Int) + 1 ≤ 9223372036854775807 := by omega
          clear hm
          obtain ⟨l2, a1, b1, a3, b3, h1, h2, rfl, rfl⟩ := els_inv he
          have hfj : (v.drop j).length < f := by rw [List.length_drop]; omega
          have hlv1 := vx_lv _ _ _ _ _ h1
          obtain ⟨hsuf, hlt1⟩ := vx_suf hfj h1
          obtain ⟨hdr, hle1⟩ := drop_of hsuf (by omega)
          rw [List.length_drop] at hlt1 hlv1
          obtain ⟨j2, hj2⟩ : ∃ j2 : Nat, v.length - l2.length = j2 := ⟨_, rfl⟩
          have hix : ixR v.length (vx f (v.drop j)) = (j2 : Int) := by rw [h1]; show ((v.length - l2.length : Nat) : Int) = _; rw [hj2]
          rw [hj2] at hdr
          rw [hdr] at h2
          have HH2 := Lib.hid h2
          have HC1 := Lib.hid (fun (W : World) (hW : Below w.heap.size w W) => HLV.out j W l2 a1 b1 h1 hfj (HL.out.on hW))
          have HC2 := Lib.hid (fun (W : World) (hW : Below w.heap.size w W) => HNX.out j W (by omega) hfj (HL.out.on hW))
          rw [hix] at HC2
          have hj2l : j2 ≤ v.length := by omega
          have hj2i : ix + 1 ≤ j2 := by omega
          have ha1 : 1 ≤ a1 := hlv1.1
          have HJ1 := Lib.hid (show -9223372036854775808 ≤ (j : Int) + 1 ∧ (j : Int) + 1 ≤ 9223372036854775807 by omega)
          have HKW := Lib.hid (w64 (x := (kk : Int) + 1) (by omega) hk1)
          clear h1 h2 hsuf hdr hle1 hlt1 hj2 hix hlv1 hfj
          go_wp2_with fail
          refine (HC1.out wr HBW.out).mono ?_
          rintro e w2 ⟨rfl, hb2⟩
          have HB2 := Lib.hid (HB.out.trans (hb2.mono HB.out.size))
          have HBW2 := Lib.hid (HBW.out.trans (hb2.mono HBW.out.size))
          have e3 : w2.cell? ⟨w.heap.size, 3, none⟩ = some (.int .i64 n) := (bx.on hb2).cell 3
          clear hb2
          by_cases hgt : m < a1
          · have dg : decide (m < a1) = true := decide_eq_true hgt
            have HMX := Lib.hid (show max a1 a3 = a0 by omega)
            clear hmx hgt hm0
            go_wp2_with fail
            refine (HC2.out w2 HBW2.out).mono ?_
            rintro e w3 ⟨rfl, hb3⟩
            have HB3 := Lib.hid (HB2.out.trans (hb3.mono HB2.out.size))
            clear hb3
            obtain ⟨wk1, wk2⟩ := HKW.out
            go_wp2_with fail
            clear wk1 wk2
            go_roundw
            case rel => exact ⟨kk + 1, j2, a1, a3, b3, hkn, hj2l, hj2i, rfl, rfl, by first | rfl | go_num, HH2.out, HMX.out, by omega, HB3.out⟩
            case measure => simp [intOf] <;> omega

          · have dg : decide (m < a1) = false := decide_eq_false hgt
            have HMX := Lib.hid (show max m a3 = a0 by omega)
            clear hmx hgt
            go_wp2_with fail
            refine (HC2.out w2 HBW2.out).mono ?_
            rintro e w3 ⟨rfl, hb3⟩
            have HB3 := Lib.hid (HB2.out.trans (hb3.mono HB2.out.size))
            clear hb3
            obtain ⟨wk1, wk2⟩ := HKW.out
            go_wp2_with fail
            clear wk1 wk2
            go_roundw
            case rel => exact ⟨kk + 1, j2, m, a3, b3, hkn, hj2l, hj2i, rfl, rfl, by first | rfl | go_num, HH2.out, HMX.out, hm0, HB3.out⟩
            case measure => simp [intOf] <;> omega

        · have hz : n.toNat - kk = 0 := by omega
          rw [hz] at he
          have d0 : decide ((kk : Int) < n) = false := decide_eq_false hlt2
          have ha2 : a2 = 0 := by
            rw [els] at he; simp only [Option.some.injEq, Prod.mk.injEq] at he; omega
          subst ha2
          have hma : m = a0 := by omega
          subst hma
          have HW2 := Lib.hid (w64 (x := m + 1) (by have := HBN.out; omega) (by have := HBN.out; omega))
          clear he hz hmx
          obtain ⟨wm1, wm2⟩ := HW2.out
          go_wp2_with fail
          clear wm1 wm2
          go_ret
          exact ⟨rfl, HBW.out⟩
  · have HE := Lib.hid he
    clear he
    as_aux_lemma =>
      have HLB := Lib.hid (prs_lv (vx_lv f) _ _ _ _ _ _ _ HE.out)
      go_enter Tryz.func96, Tryz.ntmps96
      go_upto_region 4 with fail
      have bx := Blk.new w 94 #[.int .i64 6, .int .i64 i, .string s, .int .i64 n]
      have hb0 := al_new w (.cells #[.int .i64 6, .int .i64 i, .string s, .int .i64 n] 94)
      have HB0 := Lib.hid hb0
      clear hb0 q0 q1 q2 q3
      generalize (w.alloc (.cells #[.int .i64 6, .int .i64 i, .string s, .int .i64 n] 94)) = w1 at *
      have hz1 : w.heap.size ≤ w1.heap.size := HB0.out.size
      obtain ⟨wi1, wi2⟩ := w64 (x := (ix : Int) + 1) HA.out.1 HA.out.2
      go_wp2_with fail
      clear wi1 wi2
      have HI1 := Lib.hid (show (((ix + 1 : Nat) : Int)) = (ix : Int) + 1 by omega)
      go_loopw [6, 7, 8] (fun v6 v7 v8 wr => LvR6 f v l1 n a0 ix w1 v6 v7 v8 wr) (fun _ _ k _ => n.toNat - (intOf k).toNat)
      case atStart => exact ⟨0, ix + 1, 0, a0, b0, false, ⟨#[]⟩, Nat.zero_le _, by omega, Nat.le_refl _, rfl, congrArg (Value.int .i64) HI1.out.symm, rfl, HE.out, by have := HLB.out; omega, Int.le_refl _, Below.refl _ _⟩
      case round =>
        obtain ⟨kk, j, m, a2, b2, st, la, hkk, hj, hij, rfl, rfl, rfl, he, hmx, hm0, hb⟩ := hrel
        have HB := Lib.hid hb
        have HBW := Lib.hid (HB0.out.trans (hb.mono hz1))
        have bx := bx.on hb
        have e0 : wr.cell? ⟨w.heap.size, 0, none⟩ = some (.int .i64 6) := bx.cell 0
        have e3 : wr.cell? ⟨w.heap.size, 3, none⟩ = some (.int .i64 n) := bx.cell 3
        clear hb
        by_cases hlt2 : (kk : Int) < n
        · have hm : n.toNat - kk = (n.toNat - (kk + 1)) + 1 := by omega
          rw [hm] at he
          have hkn : kk + 1 ≤ n.toNat := by omega
          have hk1 : (kk : Int) + 1 ≤ 9223372036854775807 := by omega
          clear hm
          obtain ⟨y, r9, l2, a1, b1, a3, b3, hy, -, h1, h2, rfl, rfl⟩ := prs_inv he
          obtain ⟨hjl, -, rfl⟩ := drop_lt hy
          have hfj : (v.drop (j + 1)).length < f := by rw [List.length_drop]; omega
          have hlv1 := vx_lv _ _ _ _ _ h1
          obtain ⟨hsuf, hlt1⟩ := vx_suf hfj h1
          obtain ⟨hdr, hle1⟩ := drop_of hsuf (by omega)
          rw [List.length_drop] at hlt1 hlv1
          obtain ⟨j2, hj2⟩ : ∃ j2 : Nat, v.length - l2.length = j2 := ⟨_, rfl⟩
          have hix : ixR v.length (vx f (v.drop (j + 1))) = (j2 : Int) := by rw [h1]; show ((v.length - l2.length : Nat) : Int) = _; rw [hj2]
          rw [hj2] at hdr
          rw [hdr] at h2
          have HH2 := Lib.hid h2
          have HC1 := Lib.hid (fun (W : World) (hW : Below w.heap.size w W) => HLV.out (j + 1) W l2 a1 b1 h1 hfj (HL.out.on hW))
          have HC2 := Lib.hid (fun (W : World) (hW : Below w.heap.size w W) => HNX.out (j + 1) W (by omega) hfj (HL.out.on hW))
          rw [hix] at HC2
          have hj2l : j2 ≤ v.length := by omega
          have hj2i : ix + 1 ≤ j2 := by omega
          have ha1 : 1 ≤ a1 := hlv1.1
          have HJ1 := Lib.hid (show -9223372036854775808 ≤ (j : Int) + 1 ∧ (j : Int) + 1 ≤ 9223372036854775807 by omega)
          have HKW := Lib.hid (w64 (x := (kk : Int) + 1) (by omega) hk1)
          have hjI : (((j + 1 : Nat) : Int)) = (j : Int) + 1 := by omega
          rw [hjI] at HC1 HC2
          clear h1 h2 hsuf hdr hle1 hlt1 hj2 hix hlv1 hfj hy
          obtain ⟨wj1, wj2⟩ := w64 (x := (j : Int) + 1) HJ1.out.1 HJ1.out.2
          go_wp2_with fail
          clear wj1 wj2
          refine (HC1.out wr HBW.out).mono ?_
          rintro e w2 ⟨rfl, hb2⟩
          have HB2 := Lib.hid (HB.out.trans (hb2.mono HB.out.size))
          have HBW2 := Lib.hid (HBW.out.trans (hb2.mono HBW.out.size))
          have e3 : w2.cell? ⟨w.heap.size, 3, none⟩ = some (.int .i64 n) := (bx.on hb2).cell 3
          clear hb2
          by_cases hgt : m < a1
          · have dg : decide (m < a1) = true := decide_eq_true hgt
            have HMX := Lib.hid (show max a1 a3 = a0 by omega)
            clear hmx hgt hm0
            go_wp2_with fail
            refine (HC2.out w2 HBW2.out).mono ?_
            rintro e w3 ⟨rfl, hb3⟩
            have HB3 := Lib.hid (HB2.out.trans (hb3.mono HB2.out.size))
            clear hb3
            obtain ⟨wk1, wk2⟩ := HKW.out
            go_wp2_with fail
            clear wk1 wk2
            go_roundw
            case rel => exact ⟨kk + 1, j2, a1, a3, b3, true, y.s, hkn, hj2l, hj2i, rfl, rfl, by first | rfl | go_num, HH2.out, HMX.out, by omega, HB3.out⟩
            case measure => simp [intOf] <;> omega

          · have dg : decide (m < a1) = false := decide_eq_false hgt
            have HMX := Lib.hid (show max m a3 = a0 by omega)
            clear hmx hgt
            go_wp2_with fail
            refine (HC2.out w2 HBW2.out).mono ?_
            rintro e w3 ⟨rfl, hb3⟩
            have HB3 := Lib.hid (HB2.out.trans (hb3.mono HB2.out.size))
            clear hb3
            obtain ⟨wk1, wk2⟩ := HKW.out
            go_wp2_with fail
            clear wk1 wk2
            go_roundw
            case rel => exact ⟨kk + 1, j2, m, a3, b3, true, y.s, hkn, hj2l, hj2i, rfl, rfl, by first | rfl | go_num, HH2.out, HMX.out, hm0, HB3.out⟩
            case measure => simp [intOf] <;> omega

        · have hz : n.toNat - kk = 0 := by omega
          rw [hz] at he
          have d0 : decide ((kk : Int) < n) = false := decide_eq_false hlt2
          have ha2 : a2 = 0 := by
            rw [prs] at he; simp only [Option.some.injEq, Prod.mk.injEq] at he; omega
          subst ha2
          have hma : m = a0 := by omega
          subst hma
          have HW2 := Lib.hid (w64 (x := m + 1) (by have := HBN.out; omega) (by have := HBN.out; omega))
          clear he hz hmx
          obtain ⟨wm1, wm2⟩ := HW2.out
          go_wp2_with fail
          clear wm1 wm2
          go_ret
          exact ⟨rfl, HBW.out⟩
  · have b5 : (k != 5) = true := by simpa using h5
    have b6 : (k != 6) = true := by simpa using h6
    clear h5 h6
    go_enter Tryz.func96, Tryz.ntmps96
    go_wp2_with fail
    go_ret
    exact ⟨rfl, al_new w _⟩
theorem Levels_all (hok : ∀ x ∈ v, okC x) (hv : v.length ≤ 3518437208780) : ∀ f : Nat, LvC f A c v
  | 0 => fun i w l1 a b _ hf => by omega
  | f + 1 => (Levels_all hok hv f).succ hok hv
end
end Go.Proofs.YtbofclohnmojmaaGreatDoor
