/- call on a queue; what a call does, in plain words. -/
import Derived.Test.YtbofclohnmojmaaGreatDoorY8
namespace Go.Proofs.YtbofclohnmojmaaGreatDoor
open Go.RowKit
open Go.Sort (grow)

/-- What a call answers, what it delivers, and what it leaves of the queue. -/
inductive StepR (s : QS) (x : Cl) (T : List ByteArray) : Int → List De → QS → Prop
  | sendE : x.k = 0 → clkE s.now x.now ≠ 0 → StepR s x T (clkE s.now x.now) [] s
  | send (s1 : QS) (Ay : Option Addr) (cy : Nat) : x.k = 0 → clkE s.now x.now = 0 → AccR s x.now s1 → StepR s x T (sndE s1 x.e) [] (sndS s1 x.e x.now Ay cy)
  | recvE : x.k = 1 → clkE s.now x.now ≠ 0 → StepR s x T 0 [] s
  | recv (s1 : QS) (r : List De) : x.k = 1 → clkE s.now x.now = 0 → AccR s x.now s1 → r.map De.core = (rcvD s1 x.n).map De.core → StepR s x T 0 r (rcvS s1 x.n)
  | delE : x.k = 2 ∨ x.k = 4 → clkE s.now x.now ≠ 0 → StepR s x T (clkE s.now x.now) [] s
  | del (s1 : QS) : x.k = 2 ∨ x.k = 4 → clkE s.now x.now = 0 → AccR s x.now s1 → StepR s x T (fndS s1.now s1.l (x.rc T)).2 [] (delS s1 (x.rc T))
  | retE : x.k = 3 ∨ x.k ≠ 0 ∧ x.k ≠ 1 ∧ x.k ≠ 2 ∧ x.k ≠ 4 → retE s.now x.now x.n ≠ 0 → StepR s x T (retE s.now x.now x.n) [] s
  | ret (s1 : QS) : x.k = 3 ∨ x.k ≠ 0 ∧ x.k ≠ 1 ∧ x.k ≠ 2 ∧ x.k ≠ 4 → retE s.now x.now x.n = 0 → AccR s x.now s1 → StepR s x T (fndS s1.now s1.l (x.rc T)).2 [] (retS s1 (x.rc T) (x.now + x.n))
theorem eraseIdx_sub {α : Type} (l : List α) (i : Nat) : (l.eraseIdx i).Sublist l := List.eraseIdx_sublist l i
theorem retE0 {t now d : Int} (h : retE t now d = 0) : clkE t now = 0 ∧ (0 ≤ now ∧ now ≤ 1073741824) ∧ 0 ≤ d ∧ d ≤ 1073741824 := by
  unfold retE at h
  split at h
  · cases h
  · rename_i hn
    have h1 : timeB now = true := by cases hb : timeB now; exact absurd (.inl hb) hn; rfl
    have h2 : timeB d = true := by cases hb : timeB d; exact absurd (.inr hb) hn; rfl
    exact ⟨h, (timeB_iff _).1 h1, (timeB_iff _).1 h2⟩
theorem snd0 {s : QS} {x : Ev} (h : sndE s x = 0) : chkE x = 0 ∧ hasD s.d x.id = false ∧ hasL s.l x.id = false ∧ s.l.length + s.d.length < 256 := by
  unfold sndE at h
  split at h
  · contradiction
  · rename_i h0
    split at h
    · cases h
    · rename_i h1
      split at h
      · cases h
      · rename_i h2
        have h1' : hasD s.d x.id = false ∧ hasL s.l x.id = false := by simpa using h1
        exact ⟨by simpa using h0, h1'.1, h1'.2, by omega⟩
theorem sndS_ok {s : QS} (hok : s.ok) {x : Ev} (hx : evB x) {now : Int} (hn : s.now = now) (harr : s.arr < 1000000) (Ay : Option Addr) (cy : Nat) : (sndS s x now Ay cy).ok ∧ (sndS s x now Ay cy).arr ≤ s.arr + 1 := by
  unfold sndS
  split
  · rename_i h0
    obtain ⟨hc0, -, -, hl⟩ := snd0 h0
    refine ⟨⟨hok.v, hok.r, hok.now, ?_, ?_, ?_, ?_, ?_, ?_, ?_, hok.dels⟩, Int.le_refl _⟩
    · have := hok.arr; simp only; omega
    · simp only [List.length_append, List.length_cons, List.length_nil]; omega
    · simp only
      rw [List.pairwise_append]
      refine ⟨hok.ord, by simp, fun a ha b hb => ?_⟩
      rw [List.mem_singleton] at hb
      subst hb
      exact hok.arrs a ha
    · intro y hy
      simp only at hy ⊢
      rcases List.mem_append.1 hy with h | h
      · have := hok.arrs y h; omega
      · rw [List.mem_singleton] at h; subst h; simp only; omega
    · intro y hy
      rcases List.mem_append.1 hy with h | h
      · exact hok.rcv y h
      · rw [List.mem_singleton] at h; subst h; simp only; omega
    · intro y hy
      rcases List.mem_append.1 hy with h | h
      · exact hok.vis y h
      · rw [List.mem_singleton] at h; subst h; have := hok.now; simp only; omega
    · intro y hy
      rcases List.mem_append.1 hy with h | h
      · exact hok.els y h
      · rw [List.mem_singleton] at h; subst h; exact hx.sz hc0
  · exact ⟨hok, by omega⟩
theorem delS_ok {s : QS} (hok : s.ok) (rc : ByteArray) : (delS s rc).ok ∧ (delS s rc).arr = s.arr := by
  unfold delS
  split
  · have hs := eraseIdx_sub s.l (fndS s.now s.l rc).1.toNat
    exact ⟨⟨hok.v, hok.r, hok.now, hok.arr, by have := hs.length_le; have := hok.len; simp only; omega, hok.ord.sublist hs, fun y hy => hok.arrs y (hs.subset hy), fun y hy => hok.rcv y (hs.subset hy), fun y hy => hok.vis y (hs.subset hy), fun y hy => hok.els y (hs.subset hy), hok.dels⟩, rfl⟩
  · exact ⟨hok, rfl⟩
theorem modify_mem {α : Type} {f : α → α} {l : List α} {i : Nat} {y : α} (h : y ∈ l.modify i f) : ∃ x ∈ l, y = x ∨ y = f x := by
  obtain ⟨j, hj⟩ := List.mem_iff_getElem?.1 h
  rw [List.getElem?_modify] at hj
  cases hx : l[j]? with
  | none => rw [hx] at hj; simp at hj
  | some x =>
    rw [hx] at hj
    have hj2 : (if i = j then f x else x) = y := Option.some.inj hj
    refine ⟨x, List.mem_of_getElem? hx, ?_⟩
    by_cases hij : i = j
    · rw [if_pos hij] at hj2; exact .inr hj2.symm
    · rw [if_neg hij] at hj2; exact .inl hj2.symm
theorem modify_map {α β : Type} {f : α → α} {g : α → β} (hg : ∀ x, g (f x) = g x) (l : List α) (i : Nat) : (l.modify i f).map g = l.map g := by
  refine List.ext_getElem? fun j => ?_
  rw [List.getElem?_map, List.getElem?_map, List.getElem?_modify]
  cases hx : l[j]? with
  | none => rfl
  | some x =>
    by_cases hij : i = j
    · simp [hij, hg]
    · simp [hij]
theorem retS_ok {s : QS} (hok : s.ok) (rc : ByteArray) {v : Int} (hv : 0 ≤ v ∧ v ≤ 4294967296) : (retS s rc v).ok ∧ (retS s rc v).arr = s.arr := by
  unfold retS
  split
  · refine ⟨⟨hok.v, hok.r, hok.now, hok.arr, by have := hok.len; simpa using this, ?_, ?_, ?_, ?_, ?_, hok.dels⟩, rfl⟩
    · have h := hok.ord
      rw [← List.pairwise_map (f := En.arr) (R := fun a b => a < b)] at h ⊢
      simp only
      rw [modify_map (f := En.back v) (g := En.arr) (fun _ => rfl)]
      exact h
    · intro y hy
      obtain ⟨x, hx, rfl | rfl⟩ := modify_mem hy
      · exact hok.arrs _ hx
      · exact hok.arrs x hx
    · intro y hy
      obtain ⟨x, hx, rfl | rfl⟩ := modify_mem hy
      · exact hok.rcv _ hx
      · exact hok.rcv x hx
    · intro y hy
      obtain ⟨x, hx, rfl | rfl⟩ := modify_mem hy
      · exact hok.vis _ hx
      · exact hv
    · intro y hy
      obtain ⟨x, hx, rfl | rfl⟩ := modify_mem hy
      · exact hok.els _ hx
      · exact hok.els x hx
  · exact ⟨hok, rfl⟩
theorem StepR.ok {s s' : QS} {x : Cl} {T : List ByteArray} {z : Int} {D : List De} (h : StepR s x T z D s') (hok : s.ok) (harr : s.arr < 1000000) (hx : evB x.e) : s'.ok ∧ s'.arr ≤ s.arr + 1 ∧ s'.v = s.v ∧ s'.r = s.r := by
  cases h with
  | sendE => exact ⟨hok, by omega, rfl, rfl⟩
  | recvE => exact ⟨hok, by omega, rfl, rfl⟩
  | delE => exact ⟨hok, by omega, rfl, rfl⟩
  | retE => exact ⟨hok, by omega, rfl, rfl⟩
  | send s1 Ay cy hk hc ha =>
    have hn := (clk0 hc)
    obtain ⟨e1, e2, e3, e4, -⟩ := ha.stay
    have h1 := sndS_ok (ha.ok hok ⟨hn.1, hn.2.1⟩) hx e1 (by omega) Ay cy
    exact ⟨h1.1, by have := h1.2; omega, by unfold sndS; split <;> exact e2, by unfold sndS; split <;> exact e3⟩
  | recv s1 r hk hc ha hr =>
    have hn := (clk0 hc)
    obtain ⟨e1, e2, e3, e4, -⟩ := ha.stay
    exact ⟨rcvS_ok ha (ha.ok hok ⟨hn.1, hn.2.1⟩) ⟨hn.1, hn.2.1⟩, by show s1.arr ≤ _; omega, e2, e3⟩
  | del s1 hk hc ha =>
    have hn := (clk0 hc)
    obtain ⟨e1, e2, e3, e4, -⟩ := ha.stay
    have h1 := delS_ok (ha.ok hok ⟨hn.1, hn.2.1⟩) (x.rc T)
    exact ⟨h1.1, by have := h1.2; omega, by unfold delS; split <;> exact e2, by unfold delS; split <;> exact e3⟩
  | ret s1 hk hc ha =>
    obtain ⟨hc', hn, hd⟩ := retE0 hc
    obtain ⟨e1, e2, e3, e4, -⟩ := ha.stay
    have h1 := retS_ok (ha.ok hok hn) (x.rc T) (v := x.now + x.n) (by omega)
    exact ⟨h1.1, by have := h1.2; omega, by unfold retS; split <;> exact e2, by unfold retS; split <;> exact e3⟩
section
variable {w : World} {B q c c' : Nat} {A A' : Option Addr} {s : QS}
theorem nthS_size {T : List ByteArray} (h : ∀ t ∈ T, t.size ≤ 1048576) (n : Int) : (nthS T n).size ≤ 1048576 := by
  unfold nthS
  split
  · exact Nat.zero_le _
  · split
    · exact Nat.zero_le _
    · rename_i x hx
      exact h x (List.mem_of_getElem? hx)
theorem QTo.back {W w' : World} {s' : QS} (hbW : Below w.heap.size w W) (h : QTo W B q A A' s' w') : QTo w B q A A' s' w' := by
  obtain ⟨A2, c2, A3, c3, hF, hch, hff⟩ := h
  exact ⟨A2, c2, A3, c3, hF, (Chg.of_below hbW).trans hch (fun _ _ h => h), fun k hk => (hff k hk).imp id (fun h => Nat.le_trans hbW.size h)⟩
theorem QTo.clOn {x : Cl} {W w' : World} {s' : QS} (hQ : FQ w B q A c A' c' s) (hW : W = x.at_ w ∨ W = (x.at_ w).drew) (h : QTo W B q A A' s' w') : ClOn x w.heap.size w' := by
  obtain ⟨A2, c2, A3, c3, hF, hch, hff⟩ := h
  have hb : Below (x.at_ w).heap.size (x.at_ w) W := by
    rcases hW with rfl | rfl
    · exact Below.refl _ _
    · exact below_drew' _
  have b := (Blk.new w 42 #[.int .i64 x.k, .string x.e.id, .string x.e.tn, .string x.e.src, .string x.e.key, .int .i64 x.e.at_, .string x.e.cause, .slice x.e.A x.e.body.length x.e.cp, .string x.s, .int .i64 x.now, .int .i64 x.n]).on hb
  have hn : ¬ ff q A A' w.heap.size := fun hh => by have := (hQ.foot_lt _ hh).2; omega
  have b' := hch.blk b hn
  exact ⟨b'.cell 9, b'.cell 10⟩
theorem at_below (x : Cl) {W : World} (hW : W = x.at_ w ∨ W = (x.at_ w).drew) : Below w.heap.size w W := by
  have hb : Below w.heap.size w (x.at_ w) := al_new w _
  rcases hW with rfl | rfl
  · exact hb
  · exact hb.trans ((below_drew' _).mono hb.size)
theorem OwnD.nil (w : World) (base : Nat) : OwnD w base (.slice none 0 0) [] := own_nil w base _ _
/-- What a call on a queue leaves. -/
def ClPost' (w : World) (B q : Nat) (A A' : Option Addr) (s : QS) (x : Cl) (T : List ByteArray) (u : Value) (z : Int) (w' : World) : Prop :=
  ∃ r s', OwnD w' w.heap.size u r ∧ (∀ d ∈ r, EvQ w' w.heap.size d.ev) ∧ StepR s x T z r s' ∧ QTo w B q A A' s' w'
theorem callQ_any {BT : Nat} {t : Value} {T : List ByteArray} (hB : B ≤ w.heap.size) (hQ : FQ w B q A c A' c' s) (hok : s.ok) (harr : s.arr < 1000000) (x : Cl) (hin : EvIn w B x.e) (hup : evB x.e ∧ x.s.size ≤ 140737488351232) (hT : OwnS w BT t T) (hl : T.length ≤ 9223372036854775807) (hTs : ∀ t ∈ T, t.size ≤ 1048576) (hX : LaidB w B) (hE : ErrB w B) :
    Calls Tryz.prog 11 #[.pointer (some ⟨q, 0, none⟩), .agg #[.int .i64 x.k, .string x.e.id, .string x.e.tn, .string x.e.src, .string x.e.key, .int .i64 x.e.at_, .string x.e.cause, .slice x.e.A x.e.body.length x.e.cp, .string x.s, .int .i64 x.now, .int .i64 x.n], t] w fun e w' => ∃ u z, e = .returned (.tuple #[u, .int .i64 z]) ∧ ClPost' w B q A A' s x T u z w' := by
  have hrc : (x.rc T).size ≤ 140737488351232 := by
    unfold Cl.rc
    split
    · exact hup.2
    · exact Nat.le_trans (nthS_size hTs _) (by decide)
  refine call_gen x (ClPost' w B q A A' s x T) hT hl ?_ ?_ ?_ ?_
  · intro k0
    have hb := at_below (w := w) x (.inl rfl)
    refine (Send_gen (Nat.le_trans hB hb.size) (hQ.below hb) hok harr x.e (EvIn.stay (Nat.le_trans hB hb.size) (hQ.below hb) (hin.keep (hb.mono hB))) hup.1 x.now (hX.on (hb.mono hB))).mono ?_
    rintro e w' (⟨hc, rfl, hq⟩ | ⟨hc, s1, Ay, cy, ha, rfl, hq⟩)
    · exact ⟨_, rfl, [], s, OwnD.nil _ _, by simp, .sendE k0 hc, hq.back hb⟩
    · exact ⟨_, rfl, [], _, OwnD.nil _ _, by simp, .send s1 Ay cy k0 hc ha, hq.back hb⟩
  · intro k1
    have hb := at_below (w := w) x (.inl rfl)
    refine (Receive_any (Nat.le_trans hB hb.size) (hQ.below hb) hok x.now x.n (hX.on (hb.mono hB))).mono ?_
    rintro e w' (⟨hc, rfl, hq⟩ | ⟨hc, s1, v, r, ha, rfl, ho, hr, hd, hq⟩)
    · exact ⟨_, rfl, [], s, OwnD.nil _ _, by simp, .recvE k1 hc, hq.back hb⟩
    · exact ⟨_, rfl, r, _, own_base ho hb.size, fun d hd' => (hd d hd').base hb.size, .recv s1 r k1 hc ha hr, hq.back hb⟩
  · intro W hW hk
    have hb := at_below (w := w) x hW
    refine (DeleteQ_any (Nat.le_trans hB hb.size) (hQ.below hb) hok (x.rc T) hrc x.now (hE.on (hb.mono hB))).mono ?_
    rintro e w' (⟨hc, rfl, hq⟩ | ⟨hc, s1, ha, rfl, hq⟩)
    · exact ⟨_, rfl, ⟨[], s, OwnD.nil _ _, by simp, .delE hk hc, hq.back hb⟩, hq.clOn hQ hW⟩
    · exact ⟨_, rfl, ⟨[], _, OwnD.nil _ _, by simp, .del s1 hk hc ha, hq.back hb⟩, hq.clOn hQ hW⟩
  · intro W hW hk
    have hb := at_below (w := w) x hW
    refine (Return_any (Nat.le_trans hB hb.size) (hQ.below hb) hok (x.rc T) hrc x.now x.n (hE.on (hb.mono hB))).mono ?_
    rintro e w' (⟨hc, rfl, hq⟩ | ⟨hc, s1, ha, rfl, hq⟩)
    · exact ⟨_, rfl, ⟨[], s, OwnD.nil _ _, by simp, .retE hk hc, hq.back hb⟩, hq.clOn hQ hW⟩
    · exact ⟨_, rfl, ⟨[], _, OwnD.nil _ _, by simp, .ret s1 hk hc ha, hq.back hb⟩, hq.clOn hQ hW⟩
end
end Go.Proofs.YtbofclohnmojmaaGreatDoor
