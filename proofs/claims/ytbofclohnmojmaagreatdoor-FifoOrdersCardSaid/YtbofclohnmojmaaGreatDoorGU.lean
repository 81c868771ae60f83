/- FifoKeeps: a call, plain; a script's call in memory. -/
import Derived.Test.YtbofclohnmojmaaGreatDoorGS
import Derived.Test.YtbofclohnmojmaaGreatDoorYO
namespace Go.Proofs.YtbofclohnmojmaaGreatDoor
open Go.RowKit
open Go.Sort (grow)

/-- When k deliveries of a call have been told. -/
def KpL (s' : QS) (r : List De) (inn : Int) (j : Nat) (all : List Sn) : Prop :=
  (r = [] ∧ KpI s' all inn) ∨ ∃ (s0 s1 : QS) (now n : Int), AccR s0 now s1 ∧ s1.ok ∧ s' = rcvS s1 n ∧ r.map De.core = (rcvD s1 n).map De.core ∧ inn = s1.l.length + s1.d.length ∧ (s1.l.map fun x => x.ev.id).Nodup ∧ (∀ x ∈ s1.l, x.ev.id.size ≤ 64) ∧ KpM s1 n j all
section
variable {s s' : QS} {x : Cl} {T : List ByteArray} {z inn : Int} {j : Nat} {r : List De} {all : List Sn}
theorem KpL.of (h : KpI s' all inn) : KpL s' [] inn 0 all := .inl ⟨rfl, h⟩
theorem KpL.in_ (h : KpL s' r inn j all) : inn = s'.l.length + s'.d.length := by
  rcases h with ⟨_, h⟩ | ⟨s0, s1, now, n, _, _, rfl, _, hi, _⟩
  · exact h.inn
  · rw [rcvS_len]; exact hi
theorem KpL.done (h : KpL s' r inn r.length all) : KpI s' all inn := by
  rcases h with ⟨_, h⟩ | ⟨s0, s1, now, n, _, _, rfl, hr, hi, hn, hz, hM⟩
  · exact h
  · exact hM.done (by rw [(dlv_len hr).1]; exact Nat.le_refl _) hi hn hz
theorem rcpS_size (id : ByteArray) (n : Int) (h : id.size ≤ 64) (h0 : 0 ≤ n) (h1 : n ≤ 1000) : (rcpS id n).size ≤ 1000 := by
  unfold rcpS
  have hl : (Lib.itoa n).length ≤ 21 := Lib.itoa_length_le n (by omega) (by omega)
  simp only [ByteArray.size_append]
  have e : (ByteArray.mk (Lib.itoa n).toArray).size = (Lib.itoa n).length := by simp [ByteArray.size]
  rw [e]
  show id.size + 1 + _ ≤ 1000
  omega
theorem KpL.step {d : De} (h : KpL s' r inn j all) (hd : r[j]? = some d) :
    ∃ (i : Nat) (y : Sn), fnS all d.ev.id = i ∧ all[i]? = some y ∧ (d.cnt = 1 ∨ y.times + 1 = d.cnt) ∧ (1 ≤ d.cnt ∧ d.cnt ≤ 10 ∧ d.cnt ≤ s'.r) ∧ d.rc.size ≤ 1000 ∧ KpL s' r inn (j + 1) (all.set i { y with times := d.cnt }) := by
  rcases h with ⟨rfl, _⟩ | ⟨s0, s1, now, n, ha, hok, rfl, hr, hi, hn, hz, hM⟩
  · simp at hd
  · obtain ⟨i, x, ht, hx, hrd, e1, e2, e3, e4⟩ := dlv_at hr hd
    obtain ⟨p, y, f1, f2, f3, f4⟩ := hM.step hn ht hx
    have hrc := hok.rcv x (List.mem_of_getElem? hx)
    have hle := rdy_rcv ha hx hrd
    have hr10 := hok.r
    rw [e3, e2, e1]
    refine ⟨p, y, f1, f2, ?_, ⟨by omega, by omega, hle⟩, rcpS_size _ _ (hz x (List.mem_of_getElem? hx)) (by omega) (by omega), .inr ⟨s0, s1, now, n, ha, hok, rfl, hr, hi, hn, hz, f4⟩⟩
    rcases f3 with h0 | h0
    · left; omega
    · right; omega
/-- A call of a script, as the law FifoKeeps counts. -/
theorem StepR.kp (h : StepR s x T z r s') (hI : KpI s all inn) (hok : s.ok) :
    (x.k = 0 → z = 0 → KpL s' r (inn + 1) 0 (all ++ [⟨x.e.id, ⟨#[]⟩, false, 0⟩])) ∧ (x.k = 2 ∨ x.k = 4 → z = 0 → KpL s' r (inn - 1) 0 all) ∧ (¬ (x.k = 0 ∧ z = 0) → ¬ ((x.k = 2 ∨ x.k = 4) ∧ z = 0) → KpL s' r inn 0 all) ∧ (x.k = 1 → r.length ≤ x.n.toNat) ∧ r.length ≤ 256 := by
  cases h with
  | sendE hk hc => exact ⟨fun _ h => absurd h hc, fun h => by omega, fun _ _ => .of hI, fun h => by omega, by simp⟩
  | recvE hk hc => exact ⟨fun h => by omega, fun h => by omega, fun _ _ => .of hI, fun _ => Nat.zero_le _, by simp⟩
  | delE hk hc => exact ⟨fun h => by omega, fun _ h => absurd h hc, fun _ _ => .of hI, fun h => by omega, by simp⟩
  | retE hk hc => exact ⟨fun h => by omega, fun h => by omega, fun _ _ => .of hI, fun h => by omega, by simp⟩
  | send s1 Ay cy hk hc ha =>
    refine ⟨fun _ hz => .of ((hI.acc ha).send hz _), fun h => by omega, fun hn _ => ?_, fun h => by omega, by simp⟩
    rw [sndS_no (fun h0 => hn ⟨hk, h0⟩)]
    exact .of (hI.acc ha)
  | recv s1 r hk hc ha hr =>
    have hn := clk0 hc
    have h1 := hI.acc ha
    have hok1 := ha.ok hok ⟨hn.1, hn.2.1⟩
    have hl : r.length ≤ 256 := by
      rw [(dlv_len hr).1]
      have := hok1.len
      have h5 : (takeI s1.now s1.l x.n).length ≤ s1.l.length := by
        unfold takeI
        rw [List.length_take]
        have := rdyL_len s1.now s1.l s1.l.length
        omega
      omega
    exact ⟨fun h => by omega, fun h => by omega, fun _ _ => .inr ⟨s, s1, x.now, x.n, ha, hok1, rfl, hr, h1.inn, h1.ids, h1.szs, .start h1⟩, fun _ => (dlv_len hr).2, hl⟩
  | del s1 hk hc ha =>
    refine ⟨fun h => by omega, fun _ hz => .of ((hI.acc ha).del hz), fun _ hn => ?_, fun h => by omega, by simp⟩
    rw [delS_no (fun h0 => hn ⟨hk, h0⟩)]
    exact .of (hI.acc ha)
  | ret s1 hk hc ha =>
    exact ⟨fun h => by omega, fun h => by omega, fun _ _ => .of (hI.acc ha).ret, fun h => by omega, by simp⟩
theorem newS_ok {v r : Int} (h : newQ v r = 0) : (⟨v, r, 0, 0, [], []⟩ : QS).ok := by
  have h1 : 1 ≤ v ∧ v ≤ 1073741824 ∧ 1 ≤ r ∧ r ≤ 10 := by
    unfold newQ at h
    split at h
    · cases h
    · omega
  exact ⟨⟨h1.1, h1.2.1⟩, h1.2.2, by simp, by simp, by simp, .nil, by simp, by simp, by simp, by simp, by simp⟩
/-- A call of a script, loaded whole, and its cells. -/
theorem ld_cl {w : World} {B : Nat} {A : Option Addr} {l : List Cl} (h : Reads w B 11 A l.length (l.flatMap Cl.cells)) {k : Nat} {x : Cl} (hk : l[k]? = some x) :
    ∃ b o, A = some ⟨b, o, none⟩ ∧ b < B ∧ Sem.run Tryz.prog (lc11 ⟨b, o + k * 11, none⟩) w = .ok #[.int .i64 x.k, .string x.e.id, .string x.e.tn, .string x.e.src, .string x.e.key, .int .i64 x.e.at_, .string x.e.cause, .slice x.e.A x.e.body.length x.e.cp, .string x.s, .int .i64 x.now, .int .i64 x.n] w ∧
      w.cell? ⟨b, o + k * 11, none⟩ = some (.int .i64 x.k) ∧ w.cell? ⟨b, o + k * 11 + 1, none⟩ = some (.string x.e.id) ∧ w.cell? ⟨b, o + k * 11 + 4, none⟩ = some (.string x.e.key) ∧ w.cell? ⟨b, o + k * 11 + 8, none⟩ = some (.string x.s) ∧ w.cell? ⟨b, o + k * 11 + 9, none⟩ = some (.int .i64 x.now) ∧ w.cell? ⟨b, o + k * 11 + 10, none⟩ = some (.int .i64 x.n) := by
  obtain ⟨b, o, e, hb, hc⟩ := Reads.elem Cl.len h hk
  refine ⟨b, o, e, hb, ?_, hc 0 _ rfl, hc 1 _ rfl, hc 4 _ rfl, hc 8 _ rfl, hc 9 _ rfl, hc 10 _ rfl⟩
  exact run_loadCellsFrom_list Tryz.prog _ _ x.cells 11 (Cl.len x) (fun j u hj => by
    have := hc j u hj
    show w.cell? _ = _
    first | (rw [Addr.add_lit]; exact this) | exact this)
theorem ld_at {w : World} {B b o : Nat} {l : List Cl} (h : Reads w B 11 (some ⟨b, o, none⟩) l.length (l.flatMap Cl.cells)) {k : Nat} {x : Cl} (hk : l[k]? = some x) :
    Sem.run Tryz.prog (lc11 ⟨b, o + k * 11, none⟩) w = .ok #[.int .i64 x.k, .string x.e.id, .string x.e.tn, .string x.e.src, .string x.e.key, .int .i64 x.e.at_, .string x.e.cause, .slice x.e.A x.e.body.length x.e.cp, .string x.s, .int .i64 x.now, .int .i64 x.n] w ∧
      w.cell? ⟨b, o + k * 11, none⟩ = some (.int .i64 x.k) ∧ w.cell? ⟨b, o + k * 11 + 1, none⟩ = some (.string x.e.id) ∧ w.cell? ⟨b, o + k * 11 + 4, none⟩ = some (.string x.e.key) ∧ w.cell? ⟨b, o + k * 11 + 8, none⟩ = some (.string x.s) ∧ w.cell? ⟨b, o + k * 11 + 9, none⟩ = some (.int .i64 x.now) ∧ w.cell? ⟨b, o + k * 11 + 10, none⟩ = some (.int .i64 x.n) := by
  obtain ⟨b', o', e, -, h1⟩ := ld_cl h hk
  injection e with e
  injection e with e1 e2 _
  subst e1 e2
  exact h1
end
end Go.Proofs.YtbofclohnmojmaaGreatDoor
