/- The reference's call; both queues side by side. -/
import Derived.Test.YtbofclohnmojmaaGreatDoorRD9
import Derived.Test.YtbofclohnmojmaaGreatDoorRD4
import Derived.Test.YtbofclohnmojmaaGreatDoorRD7
namespace Go.Proofs.YtbofclohnmojmaaGreatDoor
open Go.RowKit
open Go.Sort (grow)

section
variable {w : World} {B : Nat} {v t : Value} {T : List ByteArray}
set_option maxHeartbeats 8000000 in
set_option maxRecDepth 20000 in
theorem calls_gen (x : Cl) (Ok : Value → Int → World → Prop) (hT : OwnS w B t T) (hl : T.length ≤ 9223372036854775807)
    (h0 : x.k = 0 → Calls Tryz.prog 33 #[v, .agg #[.string x.e.id, .string x.e.tn, .string x.e.src, .string x.e.key, .int .i64 x.e.at_, .string x.e.cause, .slice x.e.A x.e.body.length x.e.cp], .int .i64 x.now] (x.at_ w) fun e w' => ∃ z, e = .returned (.int .i64 z) ∧ Ok (.slice none 0 0) z w')
    (h1 : x.k = 1 → Calls Tryz.prog 34 #[v, .int .i64 x.now, .int .i64 x.n] (x.at_ w) fun e w' => ∃ u, e = .returned u ∧ Ok u 0 w')
    (h2 : ∀ W, (W = x.at_ w ∨ W = (x.at_ w).drew) → x.k = 2 ∨ x.k = 4 → Calls Tryz.prog 35 #[v, .string (x.rc T), .int .i64 x.now] W fun e w' => ∃ z, e = .returned (.int .i64 z) ∧ Ok (.slice none 0 0) z w' ∧ ClOn x w.heap.size w')
    (h3 : ∀ W, (W = x.at_ w ∨ W = (x.at_ w).drew) → x.k = 3 ∨ x.k ≠ 0 ∧ x.k ≠ 1 ∧ x.k ≠ 2 ∧ x.k ≠ 4 → Calls Tryz.prog 36 #[v, .string (x.rc T), .int .i64 x.now, .int .i64 x.n] W fun e w' => ∃ z, e = .returned (.int .i64 z) ∧ Ok (.slice none 0 0) z w' ∧ ClOn x w.heap.size w') :
    Calls Tryz.prog 12 #[v, .agg #[.int .i64 x.k, .string x.e.id, .string x.e.tn, .string x.e.src, .string x.e.key, .int .i64 x.e.at_, .string x.e.cause, .slice x.e.A x.e.body.length x.e.cp, .string x.s, .int .i64 x.now, .int .i64 x.n], t] w fun e w' => ∃ u z, e = .returned (.tuple #[u, .int .i64 z]) ∧ Ok u z w' := by
  have H0 := Lib.hid h0
  have H1 := Lib.hid h1
  have H2 := Lib.hid h2
  have H3 := Lib.hid h3
  have hb := al_new w (.cells #[.int .i64 x.k, .string x.e.id, .string x.e.tn, .string x.e.src, .string x.e.key, .int .i64 x.e.at_, .string x.e.cause, .slice x.e.A x.e.body.length x.e.cp, .string x.s, .int .i64 x.now, .int .i64 x.n] 42)
  have HN := Lib.hid (nth_any (n := x.n) (own_below hT (hb.trans ((below_drew' _).mono hb.size))) hl)
  have bx := Blk.new w 42 #[.int .i64 x.k, .string x.e.id, .string x.e.tn, .string x.e.src, .string x.e.key, .int .i64 x.e.at_, .string x.e.cause, .slice x.e.A x.e.body.length x.e.cp, .string x.s, .int .i64 x.now, .int .i64 x.n]
  have q0 : (w.alloc (.cells #[.int .i64 x.k, .string x.e.id, .string x.e.tn, .string x.e.src, .string x.e.key, .int .i64 x.e.at_, .string x.e.cause, .slice x.e.A x.e.body.length x.e.cp, .string x.s, .int .i64 x.now, .int .i64 x.n] 42)).cell? ⟨w.heap.size, 0, none⟩ = some (.int .i64 x.k) := bx.cell 0
  have q1 : (w.alloc (.cells #[.int .i64 x.k, .string x.e.id, .string x.e.tn, .string x.e.src, .string x.e.key, .int .i64 x.e.at_, .string x.e.cause, .slice x.e.A x.e.body.length x.e.cp, .string x.s, .int .i64 x.now, .int .i64 x.n] 42)).cell? ⟨w.heap.size, 1, none⟩ = some (.string x.e.id) := bx.cell 1
  have q2 : (w.alloc (.cells #[.int .i64 x.k, .string x.e.id, .string x.e.tn, .string x.e.src, .string x.e.key, .int .i64 x.e.at_, .string x.e.cause, .slice x.e.A x.e.body.length x.e.cp, .string x.s, .int .i64 x.now, .int .i64 x.n] 42)).cell? ⟨w.heap.size, 2, none⟩ = some (.string x.e.tn) := bx.cell 2
  have q3 : (w.alloc (.cells #[.int .i64 x.k, .string x.e.id, .string x.e.tn, .string x.e.src, .string x.e.key, .int .i64 x.e.at_, .string x.e.cause, .slice x.e.A x.e.body.length x.e.cp, .string x.s, .int .i64 x.now, .int .i64 x.n] 42)).cell? ⟨w.heap.size, 3, none⟩ = some (.string x.e.src) := bx.cell 3
  have q4 : (w.alloc (.cells #[.int .i64 x.k, .string x.e.id, .string x.e.tn, .string x.e.src, .string x.e.key, .int .i64 x.e.at_, .string x.e.cause, .slice x.e.A x.e.body.length x.e.cp, .string x.s, .int .i64 x.now, .int .i64 x.n] 42)).cell? ⟨w.heap.size, 4, none⟩ = some (.string x.e.key) := bx.cell 4
  have q5 : (w.alloc (.cells #[.int .i64 x.k, .string x.e.id, .string x.e.tn, .string x.e.src, .string x.e.key, .int .i64 x.e.at_, .string x.e.cause, .slice x.e.A x.e.body.length x.e.cp, .string x.s, .int .i64 x.now, .int .i64 x.n] 42)).cell? ⟨w.heap.size, 5, none⟩ = some (.int .i64 x.e.at_) := bx.cell 5
  have q6 : (w.alloc (.cells #[.int .i64 x.k, .string x.e.id, .string x.e.tn, .string x.e.src, .string x.e.key, .int .i64 x.e.at_, .string x.e.cause, .slice x.e.A x.e.body.length x.e.cp, .string x.s, .int .i64 x.now, .int .i64 x.n] 42)).cell? ⟨w.heap.size, 6, none⟩ = some (.string x.e.cause) := bx.cell 6
  have q7 : (w.alloc (.cells #[.int .i64 x.k, .string x.e.id, .string x.e.tn, .string x.e.src, .string x.e.key, .int .i64 x.e.at_, .string x.e.cause, .slice x.e.A x.e.body.length x.e.cp, .string x.s, .int .i64 x.now, .int .i64 x.n] 42)).cell? ⟨w.heap.size, 7, none⟩ = some (.slice x.e.A x.e.body.length x.e.cp) := bx.cell 7
  have q8 : (w.alloc (.cells #[.int .i64 x.k, .string x.e.id, .string x.e.tn, .string x.e.src, .string x.e.key, .int .i64 x.e.at_, .string x.e.cause, .slice x.e.A x.e.body.length x.e.cp, .string x.s, .int .i64 x.now, .int .i64 x.n] 42)).cell? ⟨w.heap.size, 8, none⟩ = some (.string x.s) := bx.cell 8
  have q9 : (w.alloc (.cells #[.int .i64 x.k, .string x.e.id, .string x.e.tn, .string x.e.src, .string x.e.key, .int .i64 x.e.at_, .string x.e.cause, .slice x.e.A x.e.body.length x.e.cp, .string x.s, .int .i64 x.now, .int .i64 x.n] 42)).cell? ⟨w.heap.size, 9, none⟩ = some (.int .i64 x.now) := bx.cell 9
  have q10 : (w.alloc (.cells #[.int .i64 x.k, .string x.e.id, .string x.e.tn, .string x.e.src, .string x.e.key, .int .i64 x.e.at_, .string x.e.cause, .slice x.e.A x.e.body.length x.e.cp, .string x.s, .int .i64 x.now, .int .i64 x.n] 42)).cell? ⟨w.heap.size, 10, none⟩ = some (.int .i64 x.n) := bx.cell 10
  clear h0 h1 h2 h3 hT hb bx
  unfold Cl.at_ at *
  go_enter Tryz.func12, Tryz.ntmps12
  go_upto_region 1 with fail
  generalize hW : w.alloc (.cells #[.int .i64 x.k, .string x.e.id, .string x.e.tn, .string x.e.src, .string x.e.key, .int .i64 x.e.at_, .string x.e.cause, .slice x.e.A x.e.body.length x.e.cp, .string x.s, .int .i64 x.now, .int .i64 x.n] 42) = W at *
  by_cases k0 : x.k = 0
  · have HC := Lib.hid (H0.out k0)
    go_wp2_with fail
    refine HC.out.mono ?_
    rintro e w' ⟨z, rfl, hok⟩
    go_wp2_with fail
    go_ret2
    exact ⟨_, _, rfl, hok⟩
  · by_cases k1 : x.k = 1
    · have HC := Lib.hid (H1.out k1)
      go_wp2_with fail
      refine HC.out.mono ?_
      rintro e w' ⟨u, rfl, hok⟩
      go_wp2_with fail
      go_ret2
      exact ⟨_, _, rfl, hok⟩
    · by_cases k2 : x.k = 2
      · have HC := Lib.hid (H2.out W (.inl rfl) (.inl k2))
        have HRC := Lib.hid (show x.rc T = x.s by unfold Cl.rc; rw [if_pos (.inl k2)])
        rw [HRC.out] at HC
        go_wp2_with fail
        refine HC.out.mono ?_
        rintro e w' ⟨z, rfl, hok, -⟩
        go_wp2_with fail
        go_ret2
        exact ⟨_, _, rfl, hok⟩
      · by_cases k3 : x.k = 3
        · have HC := Lib.hid (H3.out W (.inl rfl) (.inl k3))
          have HRC := Lib.hid (show x.rc T = x.s by unfold Cl.rc; rw [if_pos (.inr k3)])
          rw [HRC.out] at HC
          go_wp2_with fail
          refine HC.out.mono ?_
          rintro e w' ⟨z, rfl, hok, -⟩
          go_wp2_with fail
          go_ret2
          exact ⟨_, _, rfl, hok⟩
        · have HRC := Lib.hid (show x.rc T = nthS T x.n by unfold Cl.rc; rw [if_neg (by rintro (h | h) <;> contradiction)])
          have HS := Lib.hid (show ClOn x w.heap.size W.drew from ⟨q9, q10⟩)
          by_cases k4 : x.k = 4
          · have HC := Lib.hid (H2.out W.drew (.inr rfl) (.inr k4))
            rw [HRC.out] at HC
            go_upto_region 10 with fail
            go_region_held3 (fun w' => w'.cell? ⟨w.heap.size, 9, none⟩ = some (.int .i64 x.now) ∧ w'.cell? ⟨w.heap.size, 10, none⟩ = some (.int .i64 x.n)) (first | assumption | exact HS.out | exact ⟨q9, q10⟩) (first
              | (go_at_call 25; (with_reducible refine HN.out.mono ?_); rintro e wn ⟨rfl, hwn⟩; obtain rfl := hwn.symm)
              | (go_at_call 35; (with_reducible refine HC.out.mono ?_); rintro e w' ⟨z, rfl, hok, hcl⟩; have hcl9 := hcl))
            go_wp2_with fail
            go_ret2
            exact ⟨_, _, rfl, hok⟩
          · have HC := Lib.hid (H3.out W.drew (.inr rfl) (.inr ⟨k0, k1, k2, k4⟩))
            rw [HRC.out] at HC
            go_upto_region 11 with fail
            go_region_held3 (fun w' => w'.cell? ⟨w.heap.size, 9, none⟩ = some (.int .i64 x.now) ∧ w'.cell? ⟨w.heap.size, 10, none⟩ = some (.int .i64 x.n)) (first | assumption | exact HS.out | exact ⟨q9, q10⟩) (first
              | (go_at_call 25; (with_reducible refine HN.out.mono ?_); rintro e wn ⟨rfl, hwn⟩; obtain rfl := hwn.symm)
              | (go_at_call 36; (with_reducible refine HC.out.mono ?_); rintro e w' ⟨z, rfl, hok, hcl⟩; have hcl9 := hcl))
            go_wp2_with fail
            go_ret2
            exact ⟨_, _, rfl, hok⟩
end
section
variable {w w' : World} {B q c c' : Nat} {A A' : Option Addr} {s : QS}
theorem RTo.back {W w' : World} {s' : QS} (hbW : Below w.heap.size w W) (h : RTo W B q A A' s' w') : RTo w B q A A' s' w' := by
  obtain ⟨A2, c2, A3, c3, hF, hch, hff⟩ := h
  exact ⟨A2, c2, A3, c3, hF, (Chg.of_below hbW).trans hch (fun _ _ h => h), fun k hk => (hff k hk).imp id (fun h => Nat.le_trans hbW.size h)⟩
theorem RTo.clOn {x : Cl} {W w' : World} {s' : QS} (hQ : RQ w B q A c A' c' s) (hW : W = x.at_ w ∨ W = (x.at_ w).drew) (h : RTo W B q A A' s' w') : ClOn x w.heap.size w' := by
  obtain ⟨A2, c2, A3, c3, hF, hch, hff⟩ := h
  have hb : Below (x.at_ w).heap.size (x.at_ w) W := by
    rcases hW with rfl | rfl
    · exact Below.refl _ _
    · exact below_drew' _
  have b := (Blk.new w 42 #[.int .i64 x.k, .string x.e.id, .string x.e.tn, .string x.e.src, .string x.e.key, .int .i64 x.e.at_, .string x.e.cause, .slice x.e.A x.e.body.length x.e.cp, .string x.s, .int .i64 x.now, .int .i64 x.n]).on hb
  have hn : ¬ ff q A A' w.heap.size := fun hh => by have := (hQ.foot_lt _ hh).2; omega
  have b' := hch.blk b hn
  exact ⟨b'.cell 9, b'.cell 10⟩
/-- What a call on the reference's queue leaves. -/
def ClPostR (w : World) (B q : Nat) (A A' : Option Addr) (s : QS) (x : Cl) (T : List ByteArray) (u : Value) (z : Int) (w' : World) : Prop :=
  ∃ r s', OwnD w' w.heap.size u r ∧ (∀ d ∈ r, EvQ w' w.heap.size d.ev) ∧ StepR s x T z r s' ∧ RTo w B q A A' s' w'
theorem callR_any {BT : Nat} {t : Value} {T : List ByteArray} (hB : B ≤ w.heap.size) (hQ : RQ w B q A c A' c' s) (hok : s.ok) (hid : s.idd) (x : Cl) (hin : EvIn w B x.e) (hup : evB x.e) (hT : OwnS w BT t T) (hl : T.length ≤ 9223372036854775807) (hX : LaidB w B) :
    Calls Tryz.prog 12 #[.pointer (some ⟨q, 0, none⟩), .agg #[.int .i64 x.k, .string x.e.id, .string x.e.tn, .string x.e.src, .string x.e.key, .int .i64 x.e.at_, .string x.e.cause, .slice x.e.A x.e.body.length x.e.cp, .string x.s, .int .i64 x.now, .int .i64 x.n], t] w fun e w' => ∃ u z, e = .returned (.tuple #[u, .int .i64 z]) ∧ ClPostR w B q A A' s x T u z w' := by
  refine calls_gen x (ClPostR w B q A A' s x T) hT hl ?_ ?_ ?_ ?_
  · intro k0
    have hb := at_below (w := w) x (.inl rfl)
    refine (rSend_any (Nat.le_trans hB hb.size) (hQ.below hb) hok x.e (EvIn.stayR (Nat.le_trans hB hb.size) (hQ.below hb) (hin.keep (hb.mono hB))) hup x.now (hX.on (hb.mono hB))).mono ?_
    rintro e w' (⟨hc, rfl, hq⟩ | ⟨hc, s1, Ay, cy, ha, rfl, hq⟩)
    · exact ⟨_, rfl, [], s, OwnD.nil _ _, by simp, .sendE k0 hc, hq.back hb⟩
    · exact ⟨_, rfl, [], _, OwnD.nil _ _, by simp, .send s1 Ay cy k0 hc ha, hq.back hb⟩
  · intro k1
    have hb := at_below (w := w) x (.inl rfl)
    refine (rReceive_any (Nat.le_trans hB hb.size) (hQ.below hb) hok x.now x.n).mono ?_
    rintro e w' (⟨hc, v, rfl, ho, hq⟩ | ⟨hc, s1, v, r, ha, rfl, ho, hr, hd, hq⟩)
    · exact ⟨_, rfl, [], s, own_base ho hb.size, by simp, .recvE k1 hc, hq.back hb⟩
    · exact ⟨_, rfl, r, _, own_base ho hb.size, fun d hd' => (hd d hd').base hb.size, .recv s1 r k1 hc ha hr, hq.back hb⟩
  · intro W hW hk
    have hb := at_below (w := w) x hW
    refine (rDelete_any (Nat.le_trans hB hb.size) (hQ.below hb) hok hid (x.rc T) x.now).mono ?_
    rintro e w' (⟨hc, rfl, hq⟩ | ⟨hc, s1, ha, rfl, hq⟩)
    · exact ⟨_, rfl, ⟨[], s, OwnD.nil _ _, by simp, .delE hk hc, hq.back hb⟩, hq.clOn hQ hW⟩
    · exact ⟨_, rfl, ⟨[], _, OwnD.nil _ _, by simp, .del s1 hk hc ha, hq.back hb⟩, hq.clOn hQ hW⟩
  · intro W hW hk
    have hb := at_below (w := w) x hW
    refine (rReturn_any (Nat.le_trans hB hb.size) (hQ.below hb) hok hid (x.rc T) x.now x.n).mono ?_
    rintro e w' (⟨hc, rfl, hq⟩ | ⟨hc, s1, ha, rfl, hq⟩)
    · exact ⟨_, rfl, ⟨[], s, OwnD.nil _ _, by simp, .retE hk hc, hq.back hb⟩, hq.clOn hQ hW⟩
    · exact ⟨_, rfl, ⟨[], _, OwnD.nil _ _, by simp, .ret s1 hk hc ha, hq.back hb⟩, hq.clOn hQ hW⟩
theorem FQ.offT (h : FQ w B q A c A' c' s) {k : Nat} {t : TypeId} {cs : Array Value} (hb : Blk w k t cs) (h1 : t ≠ 57) (h2 : t ≠ 76) (h3 : t ≠ 40) : ¬ ff q A A' k := by
  rintro (rfl | e | e)
  · exact hb.ne_ h.blk h1 rfl
  · exact hb.off h.row h2 (k := k) (by rw [own_eq]; exact e) rfl
  · exact hb.off h.dead h3 (k := k) (by rw [own_eq]; exact e) rfl
theorem RQ.offT (h : RQ w B q A c A' c' s) {k : Nat} {t : TypeId} {cs : Array Value} (hb : Blk w k t cs) (h1 : t ≠ 68) (h2 : t ≠ 78) (h3 : t ≠ 40) : ¬ ff q A A' k := by
  rintro (rfl | e | e)
  · exact hb.ne_ h.blk h1 rfl
  · exact hb.off h.row h2 (k := k) (by rw [own_eq]; exact e) rfl
  · exact hb.off h.dead h3 (k := k) (by rw [own_eq]; exact e) rfl
end
/-! ### both queues -/
structure DuP (w : World) (B q : Nat) (A : Option Addr) (c : Nat) (A' : Option Addr) (c' : Nat) (s : QS) (q2 : Nat) (A2 : Option Addr) (c2 : Nat) (A2' : Option Addr) (c2' : Nat) (s2 : QS) (t : Value) (T : List ByteArray) : Prop where
  fq : FQ w B q A c A' c' s
  rq : RQ w B q2 A2 c2 A2' c2' s2
  ne : ∀ k, ff q A A' k → ¬ ff q2 A2 A2' k
  ot : OwnS w B t T
/-- A queue, the reference's queue, a row of receipts: each apart from the others. -/
structure Duo (w0 w : World) (q : Nat) (s : QS) (q2 : Nat) (s2 : QS) (t : Value) (T : List ByteArray) : Prop where
  ex : ∃ A c A' c' A2 c2 A2' c2', DuP w w0.heap.size q A c A' c' s q2 A2 c2 A2' c2' s2 t T
  below : Below w0.heap.size w0 w
section
variable {w0 w w' : World} {q q2 : Nat} {s s2 s' : QS} {t u : Value} {T : List ByteArray}
theorem Duo.on (h : Duo w0 w q s q2 s2 t T) (hb : Below w.heap.size w w') : Duo w0 w' q s q2 s2 t T := by
  obtain ⟨A, c, A', c', A2, c2, A2', c2', h1, h2, h3, h4⟩ := h.ex
  exact ⟨⟨A, c, A', c', A2, c2, A2', c2', h1.below hb, h2.below hb, h3, own_below h4 hb⟩, h.below.trans (hb.mono h.below.size)⟩
theorem Duo.str (h : Duo w0 w q s q2 s2 t T) : OwnS w w0.heap.size t T := by obtain ⟨_, _, _, _, _, _, _, _, h⟩ := h.ex; exact h.ot
/-- Rows of deliveries and bodies that stay. -/
def Stay (w w' : World) : Prop := (∀ base v l, OwnD w base v l → OwnD w' base v l) ∧ ∀ b e, EvQ w b e → EvQ w' b e
theorem Stay.of_below (hb : Below w.heap.size w w') : Stay w w' := ⟨fun _ _ _ h => own_below h hb, fun _ _ h => h.below hb⟩
/-- A call of a script on the queue. -/
theorem call_duo (h : Duo w0 w q s q2 s2 t T) (hok : s.ok) (harr : s.arr < 1000000) (x : Cl) (hin : EvIn w w0.heap.size x.e) (hup : evB x.e ∧ x.s.size ≤ 140737488351232) (hl : T.length ≤ 9223372036854775807) (hTs : ∀ t ∈ T, t.size ≤ 1048576) (hX : LaidB w0 w0.heap.size) (hE : ErrB w0 w0.heap.size) :
    Calls Tryz.prog 11 #[.pointer (some ⟨q, 0, none⟩), .agg #[.int .i64 x.k, .string x.e.id, .string x.e.tn, .string x.e.src, .string x.e.key, .int .i64 x.e.at_, .string x.e.cause, .slice x.e.A x.e.body.length x.e.cp, .string x.s, .int .i64 x.now, .int .i64 x.n], t] w fun e w' => ∃ u z r s', e = .returned (.tuple #[u, .int .i64 z]) ∧ OwnD w' w.heap.size u r ∧ (∀ d ∈ r, EvQ w' w.heap.size d.ev) ∧ StepR s x T z r s' ∧ Duo w0 w' q s' q2 s2 t T := by
  obtain ⟨A, c, A', c', A2, c2, A2', c2', h1, h2, h3, h4⟩ := h.ex
  refine (callQ_any h.below.size h1 hok harr x hin hup h4 hl hTs (hX.on h.below) (hE.on h.below)).mono ?_
  rintro e w' ⟨u, z, rfl, r, s', ho, hd, hst, A3, c3, A4, c4, hF, hch, hff⟩
  refine ⟨u, z, r, s', rfl, ho, hd, hst, ⟨A3, c3, A4, c4, A2, c2, A2', c2', hF, h2.chg hch (fun k hk hk' => h3 k hk' hk) h1.offC, fun k hk hk' => ?_, hch.own h4 (fun k hk hk' => ?_)⟩, h.below.trans (hch.toBelow (fun k hk => (h1.foot_lt k hk).1) h.below.size)⟩
  · rcases hff k hk with hk | hk
    · exact h3 k hk hk'
    · have := (h2.foot_lt k hk').2
      omega
  · obtain ⟨cs, hb⟩ := own_blk h4 hk
    exact h1.offT hb (by decide) (by decide) (by decide) hk'
/-- A call of a script on the reference's queue. -/
theorem calls_duo (h : Duo w0 w q s q2 s2 t T) (hok : s2.ok) (hid : s2.idd) (x : Cl) (hin : EvIn w w0.heap.size x.e) (hup : evB x.e) (hl : T.length ≤ 9223372036854775807) (hX : LaidB w0 w0.heap.size) :
    Calls Tryz.prog 12 #[.pointer (some ⟨q2, 0, none⟩), .agg #[.int .i64 x.k, .string x.e.id, .string x.e.tn, .string x.e.src, .string x.e.key, .int .i64 x.e.at_, .string x.e.cause, .slice x.e.A x.e.body.length x.e.cp, .string x.s, .int .i64 x.now, .int .i64 x.n], t] w fun e w' => ∃ u z r s', e = .returned (.tuple #[u, .int .i64 z]) ∧ OwnD w' w.heap.size u r ∧ (∀ d ∈ r, EvQ w' w.heap.size d.ev) ∧ StepR s2 x T z r s' ∧ Duo w0 w' q s q2 s' t T ∧ Stay w w' := by
  obtain ⟨A, c, A', c', A2, c2, A2', c2', h1, h2, h3, h4⟩ := h.ex
  refine (callR_any h.below.size h2 hok hid x hin hup h4 hl (hX.on h.below)).mono ?_
  rintro e w' ⟨u, z, rfl, r, s', ho, hd, hst, A3, c3, A4, c4, hF, hch, hff⟩
  refine ⟨u, z, r, s', rfl, ho, hd, hst, ⟨⟨A, c, A', c', A3, c3, A4, c4, h1.chg hch (fun k hk hk' => h3 k hk hk') h2.offC, hF, fun k hk hk' => ?_, hch.own h4 (fun k hk hk' => ?_)⟩, h.below.trans (hch.toBelow (fun k hk => (h2.foot_lt k hk).1) h.below.size)⟩, fun base v l ho => hch.own ho (fun k hk hk' => ?_), fun b e he => he.chg hch h2.offC⟩
  · rcases hff k hk' with hk' | hk'
    · exact h3 k hk hk'
    · have := (h1.foot_lt k hk).2
      omega
  · obtain ⟨cs, hb⟩ := own_blk h4 hk
    exact h2.offT hb (by decide) (by decide) (by decide) hk'
  · obtain ⟨cs, hb⟩ := own_blk ho hk
    exact h2.offT hb (by decide) (by decide) (by decide) hk'
/-- One more receipt. -/
theorem Duo.tell (h : Duo w0 w q s q2 s2 t T) {x : ByteArray} {v' : Value} (ho : w'.ownsRow w0.heap.size 9 1 v' (T.length + 1) (svals T ++ [.string x])) (hg : w.grownBy w' t.ownBlock) : Duo w0 w' q s q2 s2 v' (T ++ [x]) ∧ Stay w w' := by
  obtain ⟨A, c, A', c', A2, c2, A2', c2', h1, h2, h3, h4⟩ := h.ex
  have hch : Chg (fun k => t.ownBlock = some k) w w' := (Chg.refl _ _).grown hg (fun _ hk _ => hk)
  have hoff : OffC w (fun k => t.ownBlock = some k) := by
    intro k hk cs m hb
    obtain ⟨cs', hb'⟩ := own_blk h4 hk
    unfold Blk at hb'
    rw [hb'] at hb
    injection hb with hb
    injection hb with _ ht _
    exact absurd ht (by decide)
  refine ⟨⟨⟨A, c, A', c', A2, c2, A2', c2', h1.chg hch (fun k hk hk' => ?_) hoff, h2.chg hch (fun k hk hk' => ?_) hoff, h3, OwnS.push ho⟩, h.below.trans (hch.toBelow (fun k hk' => (own_lt h4 hk').1) h.below.size)⟩, fun base v l ho' => hch.own ho' (fun k hk hk' => ?_), fun b e he => he.chg hch hoff⟩
  · obtain ⟨cs, hb⟩ := own_blk h4 hk'
    exact h1.offT hb (by decide) (by decide) (by decide) hk
  · obtain ⟨cs, hb⟩ := own_blk h4 hk'
    exact h2.offT hb (by decide) (by decide) (by decide) hk
  · obtain ⟨cs, hb⟩ := own_blk h4 hk'
    exact hb.off ho' (by decide) (k := k) hk rfl
/-! ### what is asked of both behind a call -/
/-- The keys that a queue tells. -/
def KeyR (s : QS) (now : Int) (L : List ByteArray) : Prop := (clkE s.now now ≠ 0 ∧ L = []) ∨ (clkE s.now now = 0 ∧ ∃ s1, AccR s now s1 ∧ L = keysS s1)
theorem KeyR.same {now : Int} {L L' : List ByteArray} (h : KeyR s now L) (g : KeyR s2 now L') (e : s.kore = s2.kore) : L = L' := by
  have en := (kore_all e).2.2.1
  rcases h with ⟨hc, rfl⟩ | ⟨hc, s1, ha, rfl⟩
  · rcases g with ⟨_, rfl⟩ | ⟨hc2, _⟩
    · rfl
    · exact absurd (by rw [en]; exact hc2) hc
  · rcases g with ⟨hc2, _⟩ | ⟨hc2, s1', ha2, rfl⟩
    · exact absurd (by rw [← en]; exact hc) hc2
    · exact keysS_kore (ha.kore ha2 e)
theorem KeyR.len {now : Int} {L : List ByteArray} (h : KeyR s now L) (hok : s.ok) : L.length ≤ 1000000 := by
  rcases h with ⟨_, rfl⟩ | ⟨hc, s1, ha, rfl⟩
  · simp
  · unfold keysS
    rw [List.length_map]
    have h1 := rdyL_len s1.now s1.l s1.l.length
    have h2 := ha.sub.length_le
    have := hok.len
    omega
theorem wait_duo (h : Duo w0 w q s q2 s2 t T) (hok : s.ok) (key : ByteArray) : Calls Tryz.prog 15 #[.pointer (some ⟨q, 0, none⟩), .string key] w (WtPost w (waitS s.l key)) := by
  obtain ⟨A, c, A', c', A2, c2, A2', c2', h1, h2, h3, h4⟩ := h.ex
  exact Waiting_any h1 (by have := hok.r; omega) (by have := hok.len; omega) key
theorem waitR_duo (h : Duo w0 w q s q2 s2 t T) (hok : s2.ok) (key : ByteArray) : Calls Tryz.prog 16 #[.pointer (some ⟨q2, 0, none⟩), .string key] w (WtPost w (waitS s2.l key)) := by
  obtain ⟨A, c, A', c', A2, c2, A2', c2', h1, h2, h3, h4⟩ := h.ex
  exact rWaiting_any h2 (by have := hok.v; omega) (by have := hok.len; omega) key
theorem len_duo (h : Duo w0 w q s q2 s2 t T) (hok : s.ok) : Calls Tryz.prog 19 #[.pointer (some ⟨q, 0, none⟩)] w fun e w' => e = .returned (.int .i64 s.l.length) ∧ w' = w := by
  obtain ⟨A, c, A', c', A2, c2, A2', c2', h1, h2, h3, h4⟩ := h.ex
  exact Len_any h1 (by have := hok.r; omega)
theorem lenR_duo (h : Duo w0 w q s q2 s2 t T) (hok : s2.ok) : Calls Tryz.prog 20 #[.pointer (some ⟨q2, 0, none⟩)] w fun e w' => e = .returned (.int .i64 s2.l.length) ∧ w' = w := by
  obtain ⟨A, c, A', c', A2, c2, A2', c2', h1, h2, h3, h4⟩ := h.ex
  exact rLen_any h2 (by have := hok.v; omega)
theorem dead_duo (h : Duo w0 w q s q2 s2 t T) (hok : s.ok) : Calls Tryz.prog 22 #[.pointer (some ⟨q, 0, none⟩)] w (EvsPost w s.d) := by
  obtain ⟨A, c, A', c', A2, c2, A2', c2', h1, h2, h3, h4⟩ := h.ex
  exact Dead_any h1 (by have := hok.r; omega) (by have := hok.len; omega) (fun e he => evSz_len (hok.dels e he))
theorem deadR_duo (h : Duo w0 w q s q2 s2 t T) (hok : s2.ok) : Calls Tryz.prog 23 #[.pointer (some ⟨q2, 0, none⟩)] w (EvsPost w s2.d) := by
  obtain ⟨A, c, A', c', A2, c2, A2', c2', h1, h2, h3, h4⟩ := h.ex
  exact rDead_any h2 (by have := hok.v; omega) (by have := hok.len; omega) (fun e he => evSz_len (hok.dels e he))
theorem keys_duo (h : Duo w0 w q s q2 s2 t T) (hok : s.ok) (now : Int) : Calls Tryz.prog 17 #[.pointer (some ⟨q, 0, none⟩), .int .i64 now] w fun e w' => Below w.heap.size w w' ∧ ∃ v L, e = .returned v ∧ KeyR s now L ∧ OwnS w' w.heap.size v L := by
  obtain ⟨A, c, A', c', A2, c2, A2', c2', h1, h2, h3, h4⟩ := h.ex
  refine (Keys_any h.below.size h1 hok now).mono ?_
  rintro e w' ⟨hb, ⟨hc, rfl⟩ | ⟨hc, s1, v, ha, rfl, ho⟩⟩
  · exact ⟨hb, _, [], rfl, .inl ⟨hc, rfl⟩, own_nil _ _ _ _⟩
  · exact ⟨hb, v, _, rfl, .inr ⟨hc, s1, ha, rfl⟩, ho⟩
theorem keysR_duo (h : Duo w0 w q s q2 s2 t T) (hok : s2.ok) (now : Int) : Calls Tryz.prog 18 #[.pointer (some ⟨q2, 0, none⟩), .int .i64 now] w fun e w' => Below w.heap.size w w' ∧ ∃ v L, e = .returned v ∧ KeyR s2 now L ∧ OwnS w' w.heap.size v L := by
  obtain ⟨A, c, A', c', A2, c2, A2', c2', h1, h2, h3, h4⟩ := h.ex
  refine (rKeys_any h.below.size h2 hok now).mono ?_
  rintro e w' ⟨hb, v, rfl, ⟨hc, ho⟩ | ⟨hc, s1, ha, ho⟩⟩
  · exact ⟨hb, v, [], rfl, .inl ⟨hc, rfl⟩, ho⟩
  · exact ⟨hb, v, _, rfl, .inr ⟨hc, s1, ha, rfl⟩, ho⟩
end
end Go.Proofs.YtbofclohnmojmaaGreatDoor
