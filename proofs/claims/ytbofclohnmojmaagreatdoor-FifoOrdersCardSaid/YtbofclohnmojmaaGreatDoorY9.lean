/- The example of the chapter. -/
import Derived.Test.YtbofclohnmojmaaGreatDoorY8
namespace Go.Proofs.YtbofclohnmojmaaGreatDoor
open Go.RowKit
open Go.Sort (grow)

theorem OwnS.cell_at {w : World} {base : Nat} {pv : Option Addr} {cv : Nat} {l : List ByteArray} (h : OwnS w base (.slice pv l.length cv) l) {k : Nat} {x : ByteArray} (hk : l[k]? = some x) : ∃ g, pv = some ⟨g, 0, none⟩ ∧ g < w.heap.size ∧ w.cell? ⟨g, k, none⟩ = some (.string x) := by
  obtain ⟨g, cap, e, hs⟩ := h.at_ (by have := (List.getElem?_eq_some_iff.1 hk).1; omega)
  injection e with e _ _
  exact ⟨g, e, hs.2.1, hs.cell hk⟩
theorem get_both {w : World} {base base' : Nat} {v v' : Value} {l : List ByteArray} (h : OwnS w base v l) (h' : OwnS w base' v' l) : ∃ p c p' c', v = .slice p l.length c ∧ v' = .slice p' l.length c' ∧ ∀ k x, l[k]? = some x → ∃ g g', p = some ⟨g, 0, none⟩ ∧ p' = some ⟨g', 0, none⟩ ∧ w.cell? ⟨g, k, none⟩ = some (.string x) ∧ w.cell? ⟨g', k, none⟩ = some (.string x) := by
  obtain ⟨p, c, rfl⟩ := own_slice h
  obtain ⟨p', c', rfl⟩ := own_slice h'
  refine ⟨p, c, p', c', rfl, rfl, fun k x hk => ?_⟩
  obtain ⟨g, e, _, q⟩ := OwnS.cell_at h hk
  obtain ⟨g', e', _, q'⟩ := OwnS.cell_at h' hk
  exact ⟨g, g', e, e', q, q'⟩
set_option maxHeartbeats 2000000 in
theorem SameS_any {w : World} {base base' : Nat} {v v' : Value} {l : List ByteArray} (h : OwnS w base v l) (h' : OwnS w base' v' l) (hn : l.length ≤ 1000000) :
    Calls Tryz.prog 14 #[v, v'] w fun e w' => e = .returned (.bool true) ∧ Below w.heap.size w w' := by
  obtain ⟨p, c, p', c', rfl, rfl, hg⟩ := get_both h h'
  have HG := Lib.hid hg
  clear h h' hg
  go_enter Tryz.func14, Tryz.ntmps14
  go_wp2_with fail
  go_loopw [5] (fun i wr => ∃ k n : Nat, k ≤ l.length ∧ i = .int .i64 k ∧ wr = w.drewN n) (fun i _ => l.length - (intOf i).toNat)
  case atStart => exact ⟨0, 0, Nat.zero_le _, rfl, rfl⟩
  case round =>
    obtain ⟨k, nq, hk, rfl, rfl⟩ := hrel
    by_cases hlt : k < l.length
    · obtain ⟨g, g', rfl, rfl, p0, q0⟩ := HG.out k l[k] (List.getElem?_eq_getElem hlt)
      have hltI : (k : Int) < l.length := by omega
      go_wp2_with fail
      go_quiet (fail)
      go_wp2_with fail
      go_roundw
      case rel => exact ⟨k + 1, _, by omega, by go_num, by first | rfl | rw [World.drewN_drewN]⟩
      case measure => simp [intOf]; omega
    · go_wp2_with fail
      go_ret
      exact ⟨rfl, below_drewN' _ _ _⟩
end Go.Proofs.YtbofclohnmojmaaGreatDoor
namespace Go.Proofs.YtbofclohnmojmaaGreatDoor
open Go.RowKit
open Go.Sort (grow)

def enK (id key : ByteArray) (vis rcv : Int) (held : Bool) (arr : Int) (A : Option Addr) (c : Nat) : En := ⟨{ evE id key A with cp := c }, vis, rcv, held, arr⟩
theorem acc_stay {s s1 : QS} {now : Int} (h : s.l.filter (goneB now s.r) = []) (ha : AccR s now s1) : s1 = { s with now := now } := by
  obtain ⟨r, ⟨hp, -⟩, rfl⟩ := ha
  rw [h] at hp
  have hr := List.Perm.eq_nil hp
  subst hr
  have hf : s.l.filter (fun x => !goneB now s.r x) = s.l := by
    rw [List.filter_eq_self]
    intro x hx
    have := List.filter_eq_nil_iff.1 h x hx
    simpa using this
  unfold accS
  rw [hf]
  simp
theorem acc_one {s s1 : QS} {now : Int} {x : En} {t : List En} (h : s.l.filter (goneB now s.r) = [x]) (h2 : s.l.filter (fun x => !goneB now s.r x) = t) (ha : AccR s now s1) : s1 = { s with now := now, l := t, d := s.d ++ [x.ev] } := by
  obtain ⟨r, ⟨hp, -⟩, rfl⟩ := ha
  rw [h] at hp
  have hr := List.perm_singleton.1 hp
  subst hr
  unfold accS
  rw [h2]
  rfl
def iA1 : ByteArray := ⟨#[97, 49]⟩
def iA2 : ByteArray := ⟨#[97, 50]⟩
def iB1 : ByteArray := ⟨#[98, 49]⟩
def kA : ByteArray := ⟨#[97]⟩
def kB : ByteArray := ⟨#[98]⟩
/-- The example behind its three events. -/
def S3 (A1 A2 A3 : Option Addr) (c1 c2 c3 : Nat) (now : Int) : QS := ⟨10, 2, now, 3, [enK iA1 kA 0 0 false 0 A1 c1, enK iB1 kB 0 0 false 1 A2 c2, enK iA2 kA 0 0 false 2 A3 c3], []⟩
theorem S3_acc {A1 A2 A3 : Option Addr} {c1 c2 c3 : Nat} {s1 : QS} (h : AccR (S3 A1 A2 A3 c1 c2 c3 0) 1 s1) : s1 = S3 A1 A2 A3 c1 c2 c3 1 := acc_stay (by kernel_rfl) h
theorem S3_keys (A1 A2 A3 : Option Addr) (c1 c2 c3 : Nat) : keysS (S3 A1 A2 A3 c1 c2 c3 1) = [kA, kB] := by kernel_rfl
theorem S3_take (A1 A2 A3 : Option Addr) (c1 c2 c3 : Nat) : takeI 1 (S3 A1 A2 A3 c1 c2 c3 1).l 9 = [0, 1] := by kernel_rfl
def rA11 : ByteArray := ⟨#[97, 49, 35, 49]⟩
def rB11 : ByteArray := ⟨#[98, 49, 35, 49]⟩
def rA12 : ByteArray := ⟨#[97, 49, 35, 50]⟩
def rA21 : ByteArray := ⟨#[97, 50, 35, 49]⟩
/-- Behind the first Receive. -/
def S4 (A1 A2 A3 : Option Addr) (c1 c2 c3 : Nat) (now : Int) : QS := ⟨10, 2, now, 3, [enK iA1 kA 11 1 true 0 A1 c1, enK iB1 kB 11 1 true 1 A2 c2, enK iA2 kA 0 0 false 2 A3 c3], []⟩
theorem S3_rcv (A1 A2 A3 : Option Addr) (c1 c2 c3 : Nat) : rcvS (S3 A1 A2 A3 c1 c2 c3 1) 9 = S4 A1 A2 A3 c1 c2 c3 1 := by kernel_rfl
theorem S3_dlv (A1 A2 A3 : Option Addr) (c1 c2 c3 : Nat) : (rcvD (S3 A1 A2 A3 c1 c2 c3 1) 9).map (fun d => (d.rc, d.cnt)) = [(rA11, 1), (rB11, 1)] := by kernel_rfl
theorem S4_acc {A1 A2 A3 : Option Addr} {c1 c2 c3 : Nat} {s1 : QS} (h : AccR (S4 A1 A2 A3 c1 c2 c3 1) 2 s1) : s1 = S4 A1 A2 A3 c1 c2 c3 2 := acc_stay (by kernel_rfl) h
theorem S4_rcv (A1 A2 A3 : Option Addr) (c1 c2 c3 : Nat) : rcvS (S4 A1 A2 A3 c1 c2 c3 2) 9 = S4 A1 A2 A3 c1 c2 c3 2 := by kernel_rfl
theorem S4_dlv (A1 A2 A3 : Option Addr) (c1 c2 c3 : Nat) : rcvD (S4 A1 A2 A3 c1 c2 c3 2) 9 = [] := by kernel_rfl
theorem S4_acc3 {A1 A2 A3 : Option Addr} {c1 c2 c3 : Nat} {s1 : QS} (h : AccR (S4 A1 A2 A3 c1 c2 c3 2) 3 s1) : s1 = S4 A1 A2 A3 c1 c2 c3 3 := acc_stay (by kernel_rfl) h
theorem S4_fnd (A1 A2 A3 : Option Addr) (c1 c2 c3 : Nat) : fndS 3 (S4 A1 A2 A3 c1 c2 c3 3).l rB11 = (1, 0) := by kernel_rfl
/-- Behind the Delete. -/
def S5 (A1 A3 : Option Addr) (c1 c3 : Nat) (now : Int) : QS := ⟨10, 2, now, 3, [enK iA1 kA 11 1 true 0 A1 c1, enK iA2 kA 0 0 false 2 A3 c3], []⟩
theorem S4_del (A1 A2 A3 : Option Addr) (c1 c2 c3 : Nat) : delS (S4 A1 A2 A3 c1 c2 c3 3) rB11 = S5 A1 A3 c1 c3 3 := by kernel_rfl
theorem S5_acc {A1 A3 : Option Addr} {c1 c3 : Nat} {s1 : QS} (h : AccR (S5 A1 A3 c1 c3 3) 3 s1) : s1 = S5 A1 A3 c1 c3 3 := acc_stay (by kernel_rfl) h
theorem S5_fnd (A1 A3 : Option Addr) (c1 c3 : Nat) : (fndS 3 (S5 A1 A3 c1 c3 3).l rB11).2 = 5 := by kernel_rfl
theorem S5_del (A1 A3 : Option Addr) (c1 c3 : Nat) : delS (S5 A1 A3 c1 c3 3) rB11 = S5 A1 A3 c1 c3 3 := by kernel_rfl
theorem S5_acc11 {A1 A3 : Option Addr} {c1 c3 : Nat} {s1 : QS} (h : AccR (S5 A1 A3 c1 c3 3) 11 s1) : s1 = S5 A1 A3 c1 c3 11 := acc_stay (by kernel_rfl) h
/-- Behind the third Receive. -/
def S6 (A1 A3 : Option Addr) (c1 c3 : Nat) (now : Int) : QS := ⟨10, 2, now, 3, [enK iA1 kA 21 2 true 0 A1 c1, enK iA2 kA 0 0 false 2 A3 c3], []⟩
theorem S5_rcv (A1 A3 : Option Addr) (c1 c3 : Nat) : rcvS (S5 A1 A3 c1 c3 11) 9 = S6 A1 A3 c1 c3 11 := by kernel_rfl
theorem S5_dlv (A1 A3 : Option Addr) (c1 c3 : Nat) : (rcvD (S5 A1 A3 c1 c3 11) 9).map (fun d => (d.rc, d.cnt)) = [(rA12, 2)] := by kernel_rfl
theorem S6_acc {A1 A3 : Option Addr} {c1 c3 : Nat} {s1 : QS} (h : AccR (S6 A1 A3 c1 c3 11) 12 s1) : s1 = S6 A1 A3 c1 c3 12 := acc_stay (by kernel_rfl) h
theorem S6_fnd (A1 A3 : Option Addr) (c1 c3 : Nat) : (fndS 12 (S6 A1 A3 c1 c3 12).l rA11).2 = 18 := by kernel_rfl
theorem S6_del (A1 A3 : Option Addr) (c1 c3 : Nat) : delS (S6 A1 A3 c1 c3 12) rA11 = S6 A1 A3 c1 c3 12 := by kernel_rfl
theorem S6_wait (A1 A3 : Option Addr) (c1 c3 : Nat) : waitS (S6 A1 A3 c1 c3 12).l kA = [iA1, iA2] := by kernel_rfl
/-- Behind the last Receive. -/
def S7 (A1 A3 : Option Addr) (c1 c3 : Nat) : QS := ⟨10, 2, 21, 3, [enK iA2 kA 0 0 false 2 A3 c3], [{ evE iA1 kA A1 with cp := c1 }]⟩
theorem S6_acc21 {A1 A3 : Option Addr} {c1 c3 : Nat} {s1 : QS} (h : AccR (S6 A1 A3 c1 c3 12) 21 s1) : s1 = S7 A1 A3 c1 c3 := acc_one (x := enK iA1 kA 21 2 true 0 A1 c1) (by kernel_rfl) (t := [enK iA2 kA 0 0 false 2 A3 c3]) (by kernel_rfl) h
def S8 (A1 A3 : Option Addr) (c1 c3 : Nat) : QS := ⟨10, 2, 21, 3, [enK iA2 kA 31 1 true 2 A3 c3], [{ evE iA1 kA A1 with cp := c1 }]⟩
theorem S7_rcv (A1 A3 : Option Addr) (c1 c3 : Nat) : rcvS (S7 A1 A3 c1 c3) 9 = S8 A1 A3 c1 c3 := by kernel_rfl
theorem S7_dlv (A1 A3 : Option Addr) (c1 c3 : Nat) : (rcvD (S7 A1 A3 c1 c3) 9).map (fun d => (d.rc, d.cnt)) = [(rA21, 1)] := by kernel_rfl
end Go.Proofs.YtbofclohnmojmaaGreatDoor
namespace Go.Proofs.YtbofclohnmojmaaGreatDoor
open Go.RowKit
open Go.Sort (grow)

def S0 : QS := ⟨10, 2, 0, 0, [], []⟩
def S1 (A1 : Option Addr) (c1 : Nat) : QS := ⟨10, 2, 0, 1, [enK iA1 kA 0 0 false 0 A1 c1], []⟩
def S2 (A1 A2 : Option Addr) (c1 c2 : Nat) : QS := ⟨10, 2, 0, 2, [enK iA1 kA 0 0 false 0 A1 c1, enK iB1 kB 0 0 false 1 A2 c2], []⟩
theorem S0_acc {s1 : QS} (h : AccR S0 0 s1) : s1 = S0 := acc_stay (by kernel_rfl) h
theorem S0_snd (A : Option Addr) : sndE S0 (evE iA1 kA A) = 0 := by kernel_rfl
theorem S0_st (A Ay : Option Addr) (cy : Nat) : sndS S0 (evE iA1 kA A) 0 Ay cy = S1 Ay cy := by kernel_rfl
theorem S1_acc {A1 : Option Addr} {c1 : Nat} {s1 : QS} (h : AccR (S1 A1 c1) 0 s1) : s1 = S1 A1 c1 := acc_stay (by kernel_rfl) h
theorem S1_snd (A1 : Option Addr) (c1 : Nat) (A : Option Addr) : sndE (S1 A1 c1) (evE iB1 kB A) = 0 := by kernel_rfl
theorem S1_st (A1 : Option Addr) (c1 : Nat) (A Ay : Option Addr) (cy : Nat) : sndS (S1 A1 c1) (evE iB1 kB A) 0 Ay cy = S2 A1 Ay c1 cy := by kernel_rfl
theorem S2_acc {A1 A2 : Option Addr} {c1 c2 : Nat} {s1 : QS} (h : AccR (S2 A1 A2 c1 c2) 0 s1) : s1 = S2 A1 A2 c1 c2 := acc_stay (by kernel_rfl) h
theorem S2_snd (A1 A2 : Option Addr) (c1 c2 : Nat) (A : Option Addr) : sndE (S2 A1 A2 c1 c2) (evE iA2 kA A) = 0 := by kernel_rfl
theorem S2_st (A1 A2 : Option Addr) (c1 c2 : Nat) (A Ay : Option Addr) (cy : Nat) : sndS (S2 A1 A2 c1 c2) (evE iA2 kA A) 0 Ay cy = S3 A1 A2 Ay c1 c2 cy 0 := by kernel_rfl
theorem S3_acc0 {A1 A2 A3 : Option Addr} {c1 c2 c3 : Nat} {s1 : QS} (h : AccR (S3 A1 A2 A3 c1 c2 c3 0) 0 s1) : s1 = S3 A1 A2 A3 c1 c2 c3 0 := acc_stay (by kernel_rfl) h
theorem S3_snd (A1 A2 A3 : Option Addr) (c1 c2 c3 : Nat) (A : Option Addr) : sndE (S3 A1 A2 A3 c1 c2 c3 0) (evE iA2 kB A) = 6 := by kernel_rfl
theorem S3_st (A1 A2 A3 : Option Addr) (c1 c2 c3 : Nat) (A Ay : Option Addr) (cy : Nat) : sndS (S3 A1 A2 A3 c1 c2 c3 0) (evE iA2 kB A) 0 Ay cy = S3 A1 A2 A3 c1 c2 c3 0 := by kernel_rfl
end Go.Proofs.YtbofclohnmojmaaGreatDoor
namespace Go.Proofs.YtbofclohnmojmaaGreatDoor
open Go.RowKit
open Go.Sort (grow)

theorem enK_sz {id key : ByteArray} (h : id.size ≤ 64) (hk : key.size ≤ 64) (vis rcv : Int) (held : Bool) (arr : Int) (A : Option Addr) (c : Nat) : evSz (enK id key vis rcv held arr A c).ev := evSz_evE h hk A c
theorem S0_ok : S0.ok := ⟨by decide, by decide, by decide, by decide, by decide, .nil, fun x hx => absurd hx (by simp [S0]), fun x hx => absurd hx (by simp [S0]), fun x hx => absurd hx (by simp [S0]), fun x hx => absurd hx (by simp [S0]), fun x hx => absurd hx (by simp [S0])⟩
theorem S3_ok (A1 A2 A3 : Option Addr) (c1 c2 c3 : Nat) : (S3 A1 A2 A3 c1 c2 c3 0).ok := by
  refine ⟨by simp [S3], by simp [S3], by simp [S3], by simp [S3], by simp [S3], by simp [S3, enK], ?_, ?_, ?_, ?_, ?_⟩
  all_goals (intro x hx; simp only [S3, List.mem_cons, List.not_mem_nil, or_false] at hx)
  · rcases hx with rfl | rfl | rfl <;> simp [S3, enK]
  · rcases hx with rfl | rfl | rfl <;> simp [enK]
  · rcases hx with rfl | rfl | rfl <;> simp [enK]
  · rcases hx with rfl | rfl | rfl <;> exact enK_sz (by decide) (by decide) _ _ _ _ _ _
theorem S1_ok (A1 : Option Addr) (c1 : Nat) : (S1 A1 c1).ok := by
  refine ⟨by simp [S1], by simp [S1], by simp [S1], by simp [S1], by simp [S1], by simp [S1, enK], ?_, ?_, ?_, ?_, ?_⟩
  all_goals (intro x hx; simp only [S1, List.mem_cons, List.not_mem_nil, or_false] at hx)
  · subst hx; simp [S1, enK]
  · subst hx; simp [enK]
  · subst hx; simp [enK]
  · subst hx; exact enK_sz (by decide) (by decide) _ _ _ _ _ _
theorem S2_ok (A1 A2 : Option Addr) (c1 c2 : Nat) : (S2 A1 A2 c1 c2).ok := by
  refine ⟨by simp [S2], by simp [S2], by simp [S2], by simp [S2], by simp [S2], by simp [S2, enK], ?_, ?_, ?_, ?_, ?_⟩
  all_goals (intro x hx; simp only [S2, List.mem_cons, List.not_mem_nil, or_false] at hx)
  · rcases hx with rfl | rfl <;> simp [S2, enK]
  · rcases hx with rfl | rfl <;> simp [enK]
  · rcases hx with rfl | rfl <;> simp [enK]
  · rcases hx with rfl | rfl <;> exact enK_sz (by decide) (by decide) _ _ _ _ _ _
/-- What deliveries tell. -/
theorem dlv_of {r l : List De} (h : r.map De.core = l.map De.core) : r.map (fun d => (d.rc, d.cnt)) = l.map (fun d => (d.rc, d.cnt)) := by
  have := congrArg (List.map fun d : De => (d.rc, d.cnt)) h
  rw [List.map_map, List.map_map] at this
  exact this
theorem dlv_two {r : List De} {a b : ByteArray × Int} (h : r.map (fun d => (d.rc, d.cnt)) = [a, b]) : ∃ d1 d2, r = [d1, d2] ∧ d1.rc = a.1 ∧ d1.cnt = a.2 ∧ d2.rc = b.1 ∧ d2.cnt = b.2 := by
  match r, h with
  | [d1, d2], h =>
    simp only [List.map_cons, List.map_nil, List.cons.injEq, and_true] at h
    exact ⟨d1, d2, rfl, by rw [← h.1], by rw [← h.1], by rw [← h.2], by rw [← h.2]⟩
theorem dlv_one {r : List De} {a : ByteArray × Int} (h : r.map (fun d => (d.rc, d.cnt)) = [a]) : ∃ d1, r = [d1] ∧ d1.rc = a.1 ∧ d1.cnt = a.2 := by
  match r, h with
  | [d1], h =>
    simp only [List.map_cons, List.map_nil, List.cons.injEq, and_true] at h
    exact ⟨d1, rfl, by rw [← h], by rw [← h]⟩
end Go.Proofs.YtbofclohnmojmaaGreatDoor
namespace Go.Proofs.YtbofclohnmojmaaGreatDoor
open Go.RowKit
open Go.Sort (grow)

theorem S4_ok (A1 A2 A3 : Option Addr) (c1 c2 c3 : Nat) {now : Int} (h0 : 0 ≤ now) (h1 : now ≤ 100) : (S4 A1 A2 A3 c1 c2 c3 now).ok := by
  refine ⟨by simp [S4], by simp [S4], by simp only [S4]; omega, by simp [S4], by simp [S4], by simp [S4, enK], ?_, ?_, ?_, ?_, ?_⟩
  all_goals (intro x hx; simp only [S4, List.mem_cons, List.not_mem_nil, or_false] at hx)
  · rcases hx with rfl | rfl | rfl <;> simp [S4, enK]
  · rcases hx with rfl | rfl | rfl <;> simp [enK]
  · rcases hx with rfl | rfl | rfl <;> simp [enK]
  · rcases hx with rfl | rfl | rfl <;> exact enK_sz (by decide) (by decide) _ _ _ _ _ _
theorem S5_ok (A1 A3 : Option Addr) (c1 c3 : Nat) {now : Int} (h0 : 0 ≤ now) (h1 : now ≤ 100) : (S5 A1 A3 c1 c3 now).ok := by
  refine ⟨by simp [S5], by simp [S5], by simp only [S5]; omega, by simp [S5], by simp [S5], by simp [S5, enK], ?_, ?_, ?_, ?_, ?_⟩
  all_goals (intro x hx; simp only [S5, List.mem_cons, List.not_mem_nil, or_false] at hx)
  · rcases hx with rfl | rfl <;> simp [S5, enK]
  · rcases hx with rfl | rfl <;> simp [enK]
  · rcases hx with rfl | rfl <;> simp [enK]
  · rcases hx with rfl | rfl <;> exact enK_sz (by decide) (by decide) _ _ _ _ _ _
theorem S6_ok (A1 A3 : Option Addr) (c1 c3 : Nat) {now : Int} (h0 : 0 ≤ now) (h1 : now ≤ 100) : (S6 A1 A3 c1 c3 now).ok := by
  refine ⟨by simp [S6], by simp [S6], by simp only [S6]; omega, by simp [S6], by simp [S6], by simp [S6, enK], ?_, ?_, ?_, ?_, ?_⟩
  all_goals (intro x hx; simp only [S6, List.mem_cons, List.not_mem_nil, or_false] at hx)
  · rcases hx with rfl | rfl <;> simp [S6, enK]
  · rcases hx with rfl | rfl <;> simp [enK]
  · rcases hx with rfl | rfl <;> simp [enK]
  · rcases hx with rfl | rfl <;> exact enK_sz (by decide) (by decide) _ _ _ _ _ _
theorem S8_ok (A1 A3 : Option Addr) (c1 c3 : Nat) : (S8 A1 A3 c1 c3).ok := by
  refine ⟨by simp [S8], by simp [S8], by simp [S8], by simp [S8], by simp [S8], by simp [S8, enK], ?_, ?_, ?_, ?_, ?_⟩
  all_goals (intro x hx; simp only [S8, List.mem_cons, List.not_mem_nil, or_false] at hx)
  · subst hx; simp [S8, enK]
  · subst hx; simp [enK]
  · subst hx; simp [enK]
  · subst hx; exact enK_sz (by decide) (by decide) _ _ _ _ _ _
  · subst hx; exact evSz_evE (by decide) (by decide) _ _
theorem dlv_nil {r : List De} (h : r.map (fun d => (d.rc, d.cnt)) = []) : r = [] := List.map_eq_nil_iff.1 h
theorem S4_fnd2 (A1 A2 A3 : Option Addr) (c1 c2 c3 : Nat) : (fndS (S4 A1 A2 A3 c1 c2 c3 3).now (S4 A1 A2 A3 c1 c2 c3 3).l rB11).2 = 0 := by kernel_rfl
theorem S5_fnd2 (A1 A3 : Option Addr) (c1 c3 : Nat) : (fndS (S5 A1 A3 c1 c3 3).now (S5 A1 A3 c1 c3 3).l rB11).2 = 5 := by kernel_rfl
theorem S6_fnd2 (A1 A3 : Option Addr) (c1 c3 : Nat) : (fndS (S6 A1 A3 c1 c3 12).now (S6 A1 A3 c1 c3 12).l rA11).2 = 18 := by kernel_rfl
/-- What an event of the dead tells. -/
theorem core_one {r : List Ev} {x : Ev} (h : r.map Ev.core = [x].map Ev.core) : ∃ y, r = [y] ∧ y.id = x.id := by
  match r, h with
  | [], h => simp at h
  | [y], h =>
    have h2 : y.core = x.core := by injection h
    have h3 := congrArg Ev.id h2
    exact ⟨y, rfl, h3⟩
  | _ :: _ :: _, h => simp at h
end Go.Proofs.YtbofclohnmojmaaGreatDoor
namespace Go.Proofs.YtbofclohnmojmaaGreatDoor
open Go.RowKit
open Go.Sort (grow)

set_option maxHeartbeats 16000000 in
set_option maxRecDepth 20000 in
theorem awake_any (w : World) (hX : LaidB w w.heap.size) (hE : ErrB w w.heap.size) : Calls Tryz.prog 10 #[] w fun e w' => e = .returned (.bool true) ∧ Below w.heap.size w w' := by
  have HX := Lib.hid hX
  have HE := Lib.hid hE
  clear hX hE
  go_enter Tryz.func10, Tryz.ntmps10
  go_wp2_with fail
  refine (New_any 10 2 _).mono ?_
  rintro e w1 ⟨hb1, (⟨hne, -⟩ | ⟨-, q, rfl, hq⟩)⟩
  · exact absurd (by decide) hne
  have HBw1 := Lib.hid hb1
  have HQw1 := Lib.hid hq
  clear hb1 hq
  go_wp2_with fail
  refine (event_any iA1 kA _).mono ?_
  rintro e w2 ⟨Aw2, rfl, hin, hb2⟩
  have HQw2 := Lib.hid (HQw1.out.below hb2)
  have HBw2 := Lib.hid (HBw1.out.trans (hb2.mono HBw1.out.size))
  have HINw2 := Lib.hid (EvQ.stay HQw2.out hin)
  have HXw2 := Lib.hid (HX.out.on HBw2.out)
  have hzw2 : w.heap.size ≤ w2.heap.size := HBw2.out.size
  clear hin hb2
  go_wp2_with fail
  refine (Send_gen hzw2 HQw2.out S0_ok (of_decide_eq_true (by kernel_rfl)) (evE iA1 kA Aw2) HINw2.out (evB_evE (by decide) (by decide) Aw2 1) 0 HXw2.out).mono ?_
  rintro e w3 (⟨hc, -⟩ | ⟨-, s1, Y1, z1, hacc, rfl, A2, c2, A3, c3, hq3, hch, -⟩)
  · exact absurd (by kernel_rfl) hc
  obtain rfl := S0_acc hacc
  rw [S0_st] at hq3
  rw [S0_snd]
  have HQw3 := Lib.hid hq3
  have HBw3 := Lib.hid (HBw2.out.trans (hch.toBelow (B := w.heap.size) (fun j hj => (HQw2.out.foot_lt j hj).1) hzw2))
  have hzw3 : w.heap.size ≤ w3.heap.size := HBw3.out.size
  clear hq3 hch hacc
  go_wp2_with fail
  refine (event_any iB1 kB _).mono ?_
  rintro e w4 ⟨Aw4, rfl, hin, hb2⟩
  have HQw4 := Lib.hid (HQw3.out.below hb2)
  have HBw4 := Lib.hid (HBw3.out.trans (hb2.mono HBw3.out.size))
  have HINw4 := Lib.hid (EvQ.stay HQw4.out hin)
  have HXw4 := Lib.hid (HX.out.on HBw4.out)
  have hzw4 : w.heap.size ≤ w4.heap.size := HBw4.out.size
  clear hin hb2
  go_wp2_with fail
  refine (Send_gen hzw4 HQw4.out (S1_ok _ _) (of_decide_eq_true (by kernel_rfl)) (evE iB1 kB Aw4) HINw4.out (evB_evE (by decide) (by decide) Aw4 1) 0 HXw4.out).mono ?_
  rintro e w5 (⟨hc, -⟩ | ⟨-, s1, Y2, z2, hacc, rfl, A2, c2, A3, c3, hq3, hch, -⟩)
  · exact absurd (by kernel_rfl) hc
  obtain rfl := S1_acc hacc
  rw [S1_st] at hq3
  rw [S1_snd]
  have HQw5 := Lib.hid hq3
  have HBw5 := Lib.hid (HBw4.out.trans (hch.toBelow (B := w.heap.size) (fun j hj => (HQw4.out.foot_lt j hj).1) hzw4))
  have hzw5 : w.heap.size ≤ w5.heap.size := HBw5.out.size
  clear hq3 hch hacc
  go_wp2_with fail
  refine (event_any iA2 kA _).mono ?_
  rintro e w6 ⟨Aw6, rfl, hin, hb2⟩
  have HQw6 := Lib.hid (HQw5.out.below hb2)
  have HBw6 := Lib.hid (HBw5.out.trans (hb2.mono HBw5.out.size))
  have HINw6 := Lib.hid (EvQ.stay HQw6.out hin)
  have HXw6 := Lib.hid (HX.out.on HBw6.out)
  have hzw6 : w.heap.size ≤ w6.heap.size := HBw6.out.size
  clear hin hb2
  go_wp2_with fail
  refine (Send_gen hzw6 HQw6.out (S2_ok _ _ _ _) (of_decide_eq_true (by kernel_rfl)) (evE iA2 kA Aw6) HINw6.out (evB_evE (by decide) (by decide) Aw6 1) 0 HXw6.out).mono ?_
  rintro e w7 (⟨hc, -⟩ | ⟨-, s1, Y3, z3, hacc, rfl, A2, c2, A3, c3, hq3, hch, -⟩)
  · exact absurd (by kernel_rfl) hc
  obtain rfl := S2_acc hacc
  rw [S2_st] at hq3
  rw [S2_snd]
  have HQw7 := Lib.hid hq3
  have HBw7 := Lib.hid (HBw6.out.trans (hch.toBelow (B := w.heap.size) (fun j hj => (HQw6.out.foot_lt j hj).1) hzw6))
  have hzw7 : w.heap.size ≤ w7.heap.size := HBw7.out.size
  clear hq3 hch hacc
  go_wp2_with fail
  refine (event_any iA2 kB _).mono ?_
  rintro e w8 ⟨Aw8, rfl, hin, hb2⟩
  have HQw8 := Lib.hid (HQw7.out.below hb2)
  have HBw8 := Lib.hid (HBw7.out.trans (hb2.mono HBw7.out.size))
  have HINw8 := Lib.hid (EvQ.stay HQw8.out hin)
  have HXw8 := Lib.hid (HX.out.on HBw8.out)
  have hzw8 : w.heap.size ≤ w8.heap.size := HBw8.out.size
  clear hin hb2
  go_wp2_with fail
  refine (Send_gen hzw8 HQw8.out (S3_ok _ _ _ _ _ _) (of_decide_eq_true (by kernel_rfl)) (evE iA2 kB Aw8) HINw8.out (evB_evE (by decide) (by decide) Aw8 1) 0 HXw8.out).mono ?_
  rintro e w9 (⟨hc, -⟩ | ⟨-, s1, Y4, z4, hacc, rfl, A2, c2, A3, c3, hq3, hch, -⟩)
  · exact absurd (by kernel_rfl) hc
  obtain rfl := S3_acc0 hacc
  rw [S3_st] at hq3
  rw [S3_snd]
  have HQw9 := Lib.hid hq3
  have HBw9 := Lib.hid (HBw8.out.trans (hch.toBelow (B := w.heap.size) (fun j hj => (HQw8.out.foot_lt j hj).1) hzw8))
  have hzw9 : w.heap.size ≤ w9.heap.size := HBw9.out.size
  clear hq3 hch hacc
  go_wp2_with fail
  refine (Keys_any hzw9 HQw9.out (S3_ok _ _ _ _ _ _) 1).mono ?_
  rintro e w10 ⟨hb10, (⟨hc, -⟩ | ⟨-, s1, v, hacc, rfl, hown⟩)⟩
  · exact absurd (by kernel_rfl) hc
  obtain rfl := S3_acc hacc
  rw [S3_keys] at hown
  have HQw10 := Lib.hid (HQw9.out.below hb10)
  have HBw10 := Lib.hid (HBw9.out.trans (hb10.mono hzw9))
  have hzw10 : w.heap.size ≤ w10.heap.size := HBw10.out.size
  have HK10 := Lib.hid hown
  clear hb10 hacc hown
  go_wp2_with fail
  refine (SameS_any (l := [kA, kB]) (own_below HK10.out (al_new _ _)) (World.ownsRow_lit w10 #[.string kA, .string kB] 2 (Nat.zero_le _) (by decide) rfl) (by decide)).mono ?_
  rintro e w11 ⟨rfl, hb11⟩
  have hb11' := (al_new w10 (.cells #[.string kA, .string kB] 9)).trans (hb11.mono (by simp))
  have HQw11 := Lib.hid (HQw10.out.below hb11')
  have HBw11 := Lib.hid (HBw10.out.trans (hb11'.mono hzw10))
  have hzw11 : w.heap.size ≤ w11.heap.size := HBw11.out.size
  clear hb11 hb11'
  go_wp2_with fail
  refine (Len_any HQw11.out (of_decide_eq_true (by kernel_rfl))).mono ?_
  rintro e wq ⟨rfl, hq⟩
  obtain rfl := hq.symm
  rw [show (S3 Y1 Y2 Y3 z1 z2 z3 0).l.length = 3 from rfl]
  go_wp2_with fail
  refine (Receive_any hzw11 HQw11.out (S3_ok _ _ _ _ _ _) 1 9 (HX.out.on HBw11.out)).mono ?_
  rintro e w12 (⟨hc, -⟩ | ⟨-, s1, v, r, hacc, rfl, hown, hcore, -, A2, c2, A3, c3, hq, hch, -⟩)
  · exact absurd (by kernel_rfl) hc
  obtain rfl := S3_acc hacc
  rw [S3_rcv] at hq
  obtain ⟨d1, d2, rfl, hr1, hn1, hr2, hn2⟩ := dlv_two ((dlv_of hcore).trans (S3_dlv _ _ _ _ _ _))
  have HQw12 := Lib.hid hq
  have HBw12 := Lib.hid (HBw11.out.trans (hch.toBelow (B := w.heap.size) (fun j hj => (HQw11.out.foot_lt j hj).1) hzw11))
  have hzw12 : w.heap.size ≤ w12.heap.size := HBw12.out.size
  obtain ⟨g1, cd1, rfl, -, -, -, -, hcl, -⟩ := own_at hown (show 0 < 2 by decide)
  have p0 : w12.cell? ⟨g1, 0, none⟩ = some (.string ⟨#[97, 49, 35, 49]⟩) := hcl 0 _ (congrArg (fun x => some (Value.string x)) hr1)
  have p8 : w12.cell? ⟨g1, 8, none⟩ = some (.int .i64 1) := hcl 8 _ (congrArg (fun x => some (Value.int .i64 x)) hn1)
  have p9 : w12.cell? ⟨g1, 9, none⟩ = some (.string ⟨#[98, 49, 35, 49]⟩) := hcl 9 _ (congrArg (fun x => some (Value.string x)) hr2)
  clear hq hch hacc hcore hown hcl hr1 hn1 hr2 hn2
  go_wp2_with fail
  refine (Receive_any hzw12 HQw12.out (S4_ok _ _ _ _ _ _ (by decide) (by decide)) 2 9 (HX.out.on HBw12.out)).mono ?_
  rintro e w13 (⟨hc, -⟩ | ⟨-, s1, v, r, hacc, rfl, hown, hcore, -, A4, c4, A5, c5, hq, hch, -⟩)
  · exact absurd (by kernel_rfl) hc
  obtain rfl := S4_acc hacc
  rw [S4_rcv] at hq
  obtain rfl := dlv_nil ((dlv_of hcore).trans (by rw [S4_dlv]; rfl))
  obtain ⟨Ad, cd, rfl⟩ := own_slice hown
  have HQw13 := Lib.hid hq
  have HBw13 := Lib.hid (HBw12.out.trans (hch.toBelow (B := w.heap.size) (fun j hj => (HQw12.out.foot_lt j hj).1) hzw12))
  have hzw13 : w.heap.size ≤ w13.heap.size := HBw13.out.size
  clear hq hch hacc hcore hown p0 p8 p9
  go_wp2_with fail
  refine (DeleteQ_any hzw13 HQw13.out (S4_ok _ _ _ _ _ _ (by decide) (by decide)) rB11 (by decide) 3 (HE.out.on HBw13.out)).mono ?_
  rintro e w14 (⟨hc, -⟩ | ⟨-, s1, hacc, rfl, A4, c4, A5, c5, hq, hch, -⟩)
  · exact absurd (by kernel_rfl) hc
  obtain rfl := S4_acc3 hacc
  rw [S4_del] at hq
  rw [S4_fnd2]
  have HQw14 := Lib.hid hq
  have HBw14 := Lib.hid (HBw13.out.trans (hch.toBelow (B := w.heap.size) (fun j hj => (HQw13.out.foot_lt j hj).1) hzw13))
  have hzw14 : w.heap.size ≤ w14.heap.size := HBw14.out.size
  clear hq hch hacc
  go_wp2_with fail
  refine (DeleteQ_any hzw14 HQw14.out (S5_ok _ _ _ _ (by decide) (by decide)) rB11 (by decide) 3 (HE.out.on HBw14.out)).mono ?_
  rintro e w15 (⟨hc, -⟩ | ⟨-, s1, hacc, rfl, A4, c4, A5, c5, hq, hch, -⟩)
  · exact absurd (by kernel_rfl) hc
  obtain rfl := S5_acc hacc
  rw [S5_del] at hq
  rw [S5_fnd2]
  have HQw15 := Lib.hid hq
  have HBw15 := Lib.hid (HBw14.out.trans (hch.toBelow (B := w.heap.size) (fun j hj => (HQw14.out.foot_lt j hj).1) hzw14))
  have hzw15 : w.heap.size ≤ w15.heap.size := HBw15.out.size
  clear hq hch hacc
  go_wp2_with fail
  refine (Receive_any hzw15 HQw15.out (S5_ok _ _ _ _ (by decide) (by decide)) 11 9 (HX.out.on HBw15.out)).mono ?_
  rintro e w16 (⟨hc, -⟩ | ⟨-, s1, v, r, hacc, rfl, hown, hcore, -, A4, c4, A5, c5, hq, hch, -⟩)
  · exact absurd (by kernel_rfl) hc
  obtain rfl := S5_acc11 hacc
  rw [S5_rcv] at hq
  obtain ⟨d1, rfl, hr1, hn1⟩ := dlv_one ((dlv_of hcore).trans (S5_dlv _ _ _ _))
  obtain ⟨gw16, cdw16, rfl, -, -, -, gltw16, hcl, -⟩ := own_at hown (show 0 < 1 by decide)
  have pw16 : w16.cell? ⟨gw16, 0, none⟩ = some (.string ⟨#[97, 49, 35, 50]⟩) := hcl 0 _ (congrArg (fun x => some (Value.string x)) hr1)
  have HQw16 := Lib.hid hq
  have HBw16 := Lib.hid (HBw15.out.trans (hch.toBelow (B := w.heap.size) (fun j hj => (HQw15.out.foot_lt j hj).1) hzw15))
  have hzw16 : w.heap.size ≤ w16.heap.size := HBw16.out.size
  clear hq hch hacc hcore hown hcl hr1 hn1
  go_wp2_with fail
  refine (DeleteQ_any hzw16 HQw16.out (S6_ok _ _ _ _ (by decide) (by decide)) rA11 (by decide) 12 (HE.out.on HBw16.out)).mono ?_
  rintro e w17 (⟨hc, -⟩ | ⟨-, s1, hacc, rfl, A4, c4, A5, c5, hq, hch, -⟩)
  · exact absurd (by kernel_rfl) hc
  obtain rfl := S6_acc hacc
  rw [S6_del] at hq
  rw [S6_fnd2]
  have HQw17 := Lib.hid hq
  have HBw17 := Lib.hid (HBw16.out.trans (hch.toBelow (B := w.heap.size) (fun j hj => (HQw16.out.foot_lt j hj).1) hzw16))
  have hzw17 : w.heap.size ≤ w17.heap.size := HBw17.out.size
  clear hq hch hacc
  go_wp2_with fail
  refine (Waiting_any HQw17.out (show (0 : Int) < 2 by decide) (by simp [S6]) kA).mono ?_
  rintro e w18 ⟨v, rfl, hown, hb⟩
  rw [S6_wait] at hown
  have HQw18 := Lib.hid (HQw17.out.below hb)
  have HBw18 := Lib.hid (HBw17.out.trans (hb.mono hzw17))
  have hzw18 : w.heap.size ≤ w18.heap.size := HBw18.out.size
  have HK18 := Lib.hid hown
  clear hb hown pw16
  go_wp2_with fail
  refine (SameS_any (l := [iA1, iA2]) (own_below HK18.out (al_new _ _)) (World.ownsRow_lit w18 #[.string iA1, .string iA2] 2 (Nat.zero_le _) (by decide) rfl) (by decide)).mono ?_
  rintro e w19 ⟨rfl, hb19⟩
  have hb19' := (al_new w18 (.cells #[.string iA1, .string iA2] 9)).trans (hb19.mono (by simp))
  have HQw19 := Lib.hid (HQw18.out.below hb19')
  have HBw19 := Lib.hid (HBw18.out.trans (hb19'.mono hzw18))
  have hzw19 : w.heap.size ≤ w19.heap.size := HBw19.out.size
  clear hb19 hb19'
  go_wp2_with fail
  refine (Receive_any hzw19 HQw19.out (S6_ok _ _ _ _ (by decide) (by decide)) 21 9 (HX.out.on HBw19.out)).mono ?_
  rintro e w20 (⟨hc, -⟩ | ⟨-, s1, v, r, hacc, rfl, hown, hcore, -, A4, c4, A5, c5, hq, hch, -⟩)
  · exact absurd (by kernel_rfl) hc
  obtain rfl := S6_acc21 hacc
  rw [S7_rcv] at hq
  obtain ⟨d1, rfl, hr1, hn1⟩ := dlv_one ((dlv_of hcore).trans (S7_dlv _ _ _ _))
  obtain ⟨gw20, cdw20, rfl, -, -, -, gltw20, hcl, -⟩ := own_at hown (show 0 < 1 by decide)
  have pw20 : w20.cell? ⟨gw20, 0, none⟩ = some (.string ⟨#[97, 50, 35, 49]⟩) := hcl 0 _ (congrArg (fun x => some (Value.string x)) hr1)
  have HQw20 := Lib.hid hq
  have HBw20 := Lib.hid (HBw19.out.trans (hch.toBelow (B := w.heap.size) (fun j hj => (HQw19.out.foot_lt j hj).1) hzw19))
  have hzw20 : w.heap.size ≤ w20.heap.size := HBw20.out.size
  clear hq hch hacc hcore hown hcl hr1 hn1
  go_wp2_with fail
  refine (Dead_any HQw20.out (show (0 : Int) < 2 by decide) (by simp [S8]) (fun e he => ((S8_ok _ _ _ _).dels e he).2.2.2.2.2.1)).mono ?_
  rintro e w21 ⟨v, r, rfl, hown, hcore, -, hb⟩
  obtain ⟨y, rfl, hy⟩ := core_one hcore
  obtain ⟨gw21, cdw21, rfl, -, -, -, gltw21, hcl, -⟩ := own_at hown (show 0 < 1 by decide)
  have pw21 : w21.cell? ⟨gw21, 0, none⟩ = some (.string ⟨#[97, 49]⟩) := hcl 0 _ (congrArg (fun x => some (Value.string x)) hy)
  have qw21 : w21.cell? ⟨gw20, 0, none⟩ = some (.string ⟨#[97, 50, 35, 49]⟩) := (hb.cell (p := ⟨gw20, 0, none⟩) gltw20).trans pw20
  have HQw21 := Lib.hid (HQw20.out.below hb)
  have HBw21 := Lib.hid (HBw20.out.trans (hb.mono hzw20))
  have hzw21 : w.heap.size ≤ w21.heap.size := HBw21.out.size
  have hg20 : gw20 < w21.heap.size := Nat.lt_of_lt_of_le gltw20 hb.size
  clear hb hown hcore hcl hy pw20 gltw20
  go_wp2_with fail
  refine (New_any 0 2 _).mono ?_
  rintro e w22 ⟨hb, hpo⟩
  rcases hpo with hpo | ⟨hne, -⟩
  rotate_left
  · exact absurd hne (by decide)
  obtain ⟨-, rfl⟩ := hpo
  rw [show newQ 0 2 = 2 from by decide]
  have rw22 : w22.cell? ⟨gw21, 0, none⟩ = some (.string ⟨#[97, 49]⟩) := (hb.cell (p := ⟨gw21, 0, none⟩) gltw21).trans pw21
  have sw22 : w22.cell? ⟨gw20, 0, none⟩ = some (.string ⟨#[97, 50, 35, 49]⟩) := (hb.cell (p := ⟨gw20, 0, none⟩) hg20).trans qw21
  have HQw22 := Lib.hid (HQw21.out.below hb)
  have HBw22 := Lib.hid (HBw21.out.trans (hb.mono hzw21))
  have hzw22 : w.heap.size ≤ w22.heap.size := HBw22.out.size
  clear hb pw21 qw21 gltw21 hg20
  go_wp2_with fail
  refine (Len_any HQw22.out (show (0 : Int) < 2 by decide)).mono ?_
  rintro e wq ⟨rfl, hq⟩
  obtain rfl := hq.symm
  rw [show ∀ A1 A3 c1 c3, (S8 A1 A3 c1 c3).l.length = 1 from fun _ _ _ _ => rfl]
  clear rw22 sw22
  go_wp2_with fail
  refine (event_any ⟨#[99]⟩ ⟨#[]⟩ _).mono ?_
  rintro e w23 ⟨Aw23, rfl, hin, hb2⟩
  have HQw23 := Lib.hid (HQw22.out.below hb2)
  have HBw23 := Lib.hid (HBw22.out.trans (hb2.mono HBw22.out.size))
  have HINw23 := Lib.hid (EvQ.stay HQw23.out hin)
  have HXw23 := Lib.hid (HX.out.on HBw23.out)
  have hzw23 : w.heap.size ≤ w23.heap.size := HBw23.out.size
  clear hin hb2
  go_wp2_with fail
  refine (Send_gen hzw23 HQw23.out (S8_ok _ _ _ _) (by simp [S8]) (evE ⟨#[99]⟩ ⟨#[]⟩ Aw23) HINw23.out (evB_evE (by decide) (by decide) Aw23 1) 20 HXw23.out).mono ?_
  rintro e w24 hpo
  rcases hpo with hpo | ⟨hc, -⟩
  rotate_left
  · exact absurd hc (by simp [S8, clkE, timeB])
  obtain ⟨-, rfl, A4, c4, A5, c5, hq, hch, -⟩ := hpo
  rw [show ∀ A1 A3 c1 c3, clkE (S8 A1 A3 c1 c3).now 20 = 11 from fun _ _ _ _ => by kernel_rfl]
  have HBw24 := Lib.hid (HBw23.out.trans (hch.toBelow (B := w.heap.size) (fun j hj => (HQw23.out.foot_lt j hj).1) hzw23))
  clear hq hch
  go_wp2_with fail
  go_ret
  exact ⟨rfl, HBw24.out⟩
end Go.Proofs.YtbofclohnmojmaaGreatDoor
