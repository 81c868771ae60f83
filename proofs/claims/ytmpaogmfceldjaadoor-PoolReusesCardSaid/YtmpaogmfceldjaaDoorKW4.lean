/- The walks by which an instance goes. -/
import Derived.Test.YtmpaogmfceldjaaDoorKW3
import Derived.Lib.SliceRun
import Derived.StillTailTactics
namespace Go.Proofs.YtmpaogmfceldjaaDoor
open Go.RowKit
open Go.Sort (grow)

theorem stopf_any (t id : ByteArray) (q : Nat) (w : World) (hq : w.cell? ⟨q, 0, none⟩ = some (.string id)) : Calls Tryd.prog 53 #[.string t, .pointer (some ⟨q, 0, none⟩)] w fun e w' => e = .returned (.bool (eqS t id)) ∧ w = w' := by
  have ht := toL_eq t id
  go_enter Tryd.func53, Tryd.ntmps53
  go_wp2
  go_ret
  exact ⟨ret_bool (by first | exact ht | rfl), rfl⟩
theorem enters_stop (args : Array Value) (w : World) : Sem.run Tryd.prog (callFunc 53 args) w = .ok (.enter 53 args) w := enters_of Tryd.func53 (by kernel_rfl) rfl args w
/-- The identifier stands at k and nowhere else. -/
structure OnlyAt (l : List ByteArray) (k : Nat) (id : ByteArray) : Prop where
  at_ : l[k]? = some id
  other : ∀ j y, j ≠ k → l[j]? = some y → eqS y id = false
set_option maxHeartbeats 2000000 in
set_option maxRecDepth 20000 in
theorem IndexFunc_at (id : ByteArray) (q : Nat) (w : World) (hq : w.cell? ⟨q, 0, none⟩ = some (.string id)) (g c k : Nat) (l : List ByteArray) (hl : ∀ j y, l[j]? = some y → w.cell? ⟨g, j, none⟩ = some (.string y)) (hn : l.length ≤ 32) (hk : OnlyAt l k id) :
    Calls Tryd.prog 59 #[.slice (some ⟨g, 0, none⟩) l.length c, .func (.func 53) #[] #[.pointer (some ⟨q, 0, none⟩)]] w fun e w' => e = .returned (.int .i64 k) ∧ w = w' := by
  have HL := Lib.hid hl
  have HK := Lib.hid hk
  have hkl : k < l.length := (List.getElem?_eq_some_iff.1 hk.at_).1
  have hE := enters_stop
  clear hl hk
  go_enter Tryd.func59, Tryd.ntmps59
  go_wp2_with fail
  go_loop [8] (fun i => ∃ j : Nat, j ≤ k ∧ i = .int .i64 j) (fun i => l.length - (intOf i).toNat)
  case atStart => exact ⟨0, Nat.zero_le _, rfl⟩
  case round =>
    obtain ⟨j, hj, rfl⟩ := hrel
    have hlt : j < l.length := by omega
    have hltI : (j : Int) < l.length := by omega
    have c0 := HL.out j l[j] (List.getElem?_eq_getElem hlt)
    by_cases e : j = k
    · have hv : eqS l[j] id = true := by
        have := HK.out.at_
        rw [← e, List.getElem?_eq_getElem hlt] at this
        injection this with this
        rw [this, eqS_self]
      subst e
      have HV := Lib.hid hv
      generalize l[j] = y at *
      clear hv
      go_wp2_with fail
      refine (stopf_any y id q _ hq).mono ?_
      rintro e w' ⟨rfl, rfl⟩
      rw [HV.out]
      go_wp2_with fail
      go_ret
      exact ⟨rfl, rfl⟩
    · have hv := HK.out.other j l[j] e (List.getElem?_eq_getElem hlt)
      have HV := Lib.hid hv
      generalize l[j] = y at *
      clear hv
      go_wp2_with fail
      refine (stopf_any y id q _ hq).mono ?_
      rintro e w' ⟨rfl, rfl⟩
      rw [HV.out]
      go_wp2_with fail
      go_round
      case rel => exact ⟨j + 1, by omega, by go_num⟩
      case measure => simp [intOf]; omega
/-- The row while what stands behind k moves up: all up to j has moved. -/
def shf (l : List ByteArray) (k j : Nat) : List ByteArray := (l.eraseIdx k).take (j - 1) ++ l.drop (j - 1)
theorem er_get {l : List ByteArray} {k i : Nat} : (l.eraseIdx k)[i]? = if i < k then l[i]? else l[i + 1]? := List.getElem?_eraseIdx ..
theorem shf_get {l : List ByteArray} {k j : Nat} (hk : k < l.length) (hj : j < l.length) (h1 : 1 ≤ j) : (shf l k j)[j]? = l[j]? := by
  unfold shf
  have hz : ((l.eraseIdx k).take (j - 1)).length = j - 1 := by rw [List.length_take, List.length_eraseIdx_of_lt hk]; omega
  rw [List.getElem?_append_right (by omega), hz, List.getElem?_drop]
  congr 1; omega
theorem shf_start {l : List ByteArray} {k : Nat} : shf l k (k + 1) = l := by
  unfold shf
  rw [Nat.add_sub_cancel]
  have : (l.eraseIdx k).take k = l.take k := by
    apply List.ext_getElem?
    intro i
    rw [List.getElem?_take, List.getElem?_take, er_get]
    split <;> simp_all
  rw [this, List.take_append_drop]
theorem shf_set {l : List ByteArray} {k j : Nat} {y : ByteArray} (hk : k < j) (hy : l[j]? = some y) : (shf l k j).set (j - 1) y = shf l k (j + 1) := by
  have hj : j < l.length := (List.getElem?_eq_some_iff.1 hy).1
  have hz : ((l.eraseIdx k).take (j - 1)).length = j - 1 := by rw [List.length_take, List.length_eraseIdx_of_lt (by omega)]; omega
  unfold shf
  rw [List.set_append_right _ _ (by omega), hz, Nat.sub_self, Nat.add_sub_cancel]
  have h1 : (l.eraseIdx k).take j = (l.eraseIdx k).take (j - 1) ++ [y] := by
    obtain ⟨i, rfl⟩ : ∃ i, j = i + 1 := ⟨j - 1, by omega⟩
    rw [List.take_add_one, er_get, if_neg (by omega), hy]
    rfl
  have h2 : l.drop (j - 1) = (l.drop (j - 1)).headD ⟨#[]⟩ :: l.drop j := by
    obtain ⟨i, rfl⟩ : ∃ i, j = i + 1 := ⟨j - 1, by omega⟩
    rw [Nat.add_sub_cancel, List.drop_eq_getElem_cons (by omega)]
    rfl
  rw [h1, h2]
  simp
theorem shf_end {l : List ByteArray} {k : Nat} (hk : k < l.length) : (shf l k l.length).take (l.length - 1) = l.eraseIdx k := by
  unfold shf
  have hz : ((l.eraseIdx k).take (l.length - 1)).length = l.length - 1 := by rw [List.length_take, List.length_eraseIdx_of_lt hk]; omega
  rw [List.take_append_of_le_length (by omega), List.take_take, Nat.min_self, List.take_of_length_le (by rw [List.length_eraseIdx_of_lt hk]; omega)]
theorem svals_set (l : List ByteArray) (j : Nat) (y : ByteArray) : (svals l).set j (.string y) = svals (l.set j y) := by unfold svals; rw [List.map_set]
theorem svals_take (l : List ByteArray) (j : Nat) : (svals l).take j = svals (l.take j) := by unfold svals; rw [List.map_take]
theorem svals_get {l : List ByteArray} {j : Nat} {y : ByteArray} (h : l[j]? = some y) : (svals l)[j]? = some (.string y) := by unfold svals; rw [List.getElem?_map, h]; rfl
/-- The front of an owned row. -/
theorem own_front {w : World} {base g n cap k : Nat} {e : TypeId} {sz : Nat} {xs : List Value} (h : w.ownsRow base e sz (.slice (some ⟨g, 0, none⟩) n cap) n xs) (hk : k ≤ n) : w.ownsRow base e sz (.slice (some ⟨g, 0, none⟩) k cap) k (xs.take (k * sz)) := by
  have hle : k * sz ≤ n * sz := Nat.mul_le_mul_right _ hk
  refine ⟨by rw [List.length_take, h.1]; omega, ?_⟩
  rcases h.2 with ⟨h', _⟩ | ⟨g', cap', cur, h', hb, hg, hnc, hcm, hcs, htake⟩
  · simp at h'
  · simp only [Value.slice.injEq, Option.some.injEq, Addr.mk.injEq, and_true, true_and] at h'
    obtain ⟨rfl, rfl⟩ := h'
    exact .inr ⟨g, cap, cur, rfl, hb, hg, by omega, hcm, hcs, by rw [← htake, List.take_take, Nat.min_eq_left hle]⟩
theorem grown_set {w w1 : World} {g : Nat} (h : w.grownBy w1 (some g)) (j : Nat) (u : Value) : w.grownBy (w1.setCell ⟨g, j, none⟩ u) (some g) :=
  ⟨h.os, h.tape, h.output, by simpa [World.setCell] using h.size, fun k hk hn => (Below.heap_setCell w1 ⟨g, j, none⟩ u k (fun e => hn (by rw [e]))).trans (h.block k hk hn)⟩
theorem zero_str (w : World) : (zeroValue 9).run Tryd.prog w = .ok (.string ⟨#[]⟩) w := by kernel_rfl
def DelPost (w : World) (B g c : Nat) (l : List ByteArray) (e : Ending) (w' : World) : Prop :=
  e = .returned (.slice (some ⟨g, 0, none⟩) l.length c) ∧ w'.ownsRow B 9 1 (.slice (some ⟨g, 0, none⟩) l.length c) l.length (svals l) ∧ w.grownBy w' (some g)
theorem DelPost.of {w w' : World} {B g c n : Nat} {l : List ByteArray} {e : Ending} (hn : n = l.length) (he : e = .returned (.slice (some ⟨g, 0, none⟩) n c)) (h : w'.ownsRow B 9 1 (.slice (some ⟨g, 0, none⟩) n c) n (svals l)) (hg : w.grownBy w' (some g)) : DelPost w B g c l e w' := by subst hn; exact ⟨he, h, hg⟩
set_option maxHeartbeats 4000000 in
set_option maxRecDepth 20000 in
theorem DeleteFunc_at (id : ByteArray) (q : Nat) (w : World) (hq : w.cell? ⟨q, 0, none⟩ = some (.string id)) (B g c k : Nat) (l : List ByteArray) (hrow : w.ownsRow B 9 1 (.slice (some ⟨g, 0, none⟩) l.length c) l.length (svals l)) (hqg : q ≠ g) (hn : l.length ≤ 32) (hk : OnlyAt l k id) :
    Calls Tryd.prog 52 #[.slice (some ⟨g, 0, none⟩) l.length c, .func (.func 53) #[] #[.pointer (some ⟨q, 0, none⟩)]] w (DelPost w B g c (l.eraseIdx k)) := by
  have hkl : k < l.length := (List.getElem?_eq_some_iff.1 hk.at_).1
  have hql : q < w.heap.size := by
    rcases Nat.lt_or_ge q w.heap.size with h | h
    · exact h
    · simp [World.cell?, Array.getElem?_eq_none h] at hq
  have hcap : l.length ≤ c := by
    rcases hrow.2 with ⟨h', _⟩ | ⟨g', cap', cur, h', _, _, hnc, _⟩
    · simp at h'
    · simp only [Value.slice.injEq, Option.some.injEq, Addr.mk.injEq, and_true, true_and] at h'
      obtain ⟨rfl, rfl⟩ := h'
      exact hnc
  have HI := Lib.hid (IndexFunc_at id q w hq g c k l (fun j y hj => by
    have hz : j < l.length := (List.getElem?_eq_some_iff.1 hj).1
    rw [hrow.cellAt j (by omega), svals_get hj]) hn hk)
  have HR := Lib.hid hrow
  have HK := Lib.hid hk
  have HLEN := Lib.hid (List.length_eraseIdx_of_lt hkl)
  have hE := enters_stop
  clear hrow hk
  go_enter Tryd.func52, Tryd.ntmps52
  go_wp2_with fail
  refine HI.out.mono ?_
  rintro e wq ⟨rfl, rfl⟩
  go_wp2_with fail
  go_loopw [5, 6] (fun i j wr => ∃ n : Nat, k + 1 ≤ n ∧ n ≤ l.length ∧ j = .int .i64 n ∧ i = .int .i64 (n - 1 : Nat) ∧ wr.ownsRow B 9 1 (.slice (some ⟨g, 0, none⟩) l.length c) l.length (svals (shf l k n)) ∧ w.grownBy wr (some g)) (fun _ j _ => l.length - (intOf j).toNat)
  case atStart => exact ⟨k + 1, by omega, by omega, by go_num, by rw [Nat.add_sub_cancel], by rw [shf_start]; exact HR.out, World.grownBy.refl w _⟩
  case round =>
    obtain ⟨n, hkn, hnl, rfl, rfl, hr, hg⟩ := hrel
    have hq' : wr.cell? ⟨q, 0, none⟩ = some (.string id) := (World.cell?_of_block (w := w) (a := ⟨q, 0, none⟩) (hg.block q hql (fun e => hqg (by injection e)))).trans hq
    have HG := Lib.hid hg
    have HRW := Lib.hid hr
    have hfr := hr.frozenAt (n - 1)
    clear hg hr
    by_cases hlt : n < l.length
    · have hn1 : n - 1 + 1 = n := by omega
      have HX := Lib.hid (shf_set (k := k) (j := n) (y := l[n]) (by omega) (List.getElem?_eq_getElem hlt))
      have c0 : wr.cell? ⟨g, n, none⟩ = some (.string l[n]) := by
        rw [HRW.out.cellAt n (by omega)]
        exact svals_get ((shf_get hkl hlt (by omega)).trans (List.getElem?_eq_getElem hlt))
      have c1 : ∃ u, wr.cell? ⟨g, n - 1, none⟩ = some u := by
        rw [HRW.out.cellAt (n - 1) (by omega)]
        exact ⟨_, List.getElem?_eq_getElem (by rw [HRW.out.1]; omega)⟩
      obtain ⟨u, c1⟩ := c1
      have hv := HK.out.other n l[n] (by omega) (List.getElem?_eq_getElem hlt)
      have HV := Lib.hid hv
      generalize l[n] = y at *
      clear hv
      obtain ⟨i, hi⟩ : ∃ i, i = n - 1 := ⟨_, rfl⟩
      rw [← hi] at c1 hfr ⊢
      have hil : (i : Int) < l.length := by omega
      have hltI : (n : Int) < l.length := by omega
      have HII := Lib.hid hi
      clear hi hn1
      go_wp2_with fail
      refine (stopf_any y id q _ hq').mono ?_
      rintro e w' ⟨rfl, rfl⟩
      rw [HV.out]
      go_wp2_with fail
      go_roundw
      case rel => first | exact ⟨n + 1, by omega, by omega, by go_num, by have := HII.out; rw [show n + 1 - 1 = i + 1 by omega]; go_num, by rw [← HX.out, ← svals_set, ← HII.out]; exact (HRW.out.stored _ _).1, grown_set HG.out _ _⟩ | ((repeat apply Exists.intro); exact ⟨⟨n + 1, by omega, by omega, by go_num, by have := HII.out; rw [show n + 1 - 1 = i + 1 by omega]; go_num, by rw [← HX.out, ← svals_set, ← HII.out]; exact (HRW.out.stored _ _).1, grown_set HG.out _ _⟩, rfl⟩)
      case measure => simp [intOf]; omega
    · obtain rfl : n = l.length := by omega
      obtain ⟨i, hi⟩ : ∃ i, i = l.length - 1 := ⟨_, rfl⟩
      have c1 : ∃ u, wr.cell? ⟨g, l.length - 1, none⟩ = some u := by
        rw [HRW.out.cellAt (l.length - 1) (by omega)]
        exact ⟨_, List.getElem?_eq_getElem (by rw [HRW.out.1]; omega)⟩
      obtain ⟨u, c1⟩ := c1
      rw [← hi] at c1 hfr ⊢
      have hcl := Lib.run_clear_slice (P := Tryd.prog) wr 33 9 0 (.string ⟨#[]⟩) Tryd.underlying33 zero_str rfl rfl g i (l.length - i) (c - i) (by omega) (fun j hj => by rw [show j = 0 by omega, Nat.add_zero, c1]; rfl) (fun j hj => by rw [show j = 0 by omega, Nat.add_zero]; exact hfr)
      have HP := Lib.hid (And.intro (own_front (k := i) ((HRW.out.stored i (.string ⟨#[]⟩)).1) (by omega)) (grown_set HG.out i (.string ⟨#[]⟩)))
      have HII := Lib.hid hi
      have hli : l.length - i = 1 := by omega
      rw [hli] at hcl
      have hil : i ≤ l.length := by omega
      have hic : i ≤ c := by omega
      have hne : c ≠ i := by omega
      simp only [List.replicate, World.setCells] at hcl
      have hi1 : i + 1 = l.length := by omega
      clear hi
      have HI1 := Lib.hid hi1
      clear hi1
      rw [← hli] at hcl
      clear hli
      go_wp2_with fail
      go_ret
      have e : ((svals (shf l k l.length)).set i (.string ⟨#[]⟩)).take (i * 1) = svals (l.eraseIdx k) := by
        rw [Nat.mul_one, List.take_set_of_le (Nat.le_refl i), svals_take, show i = l.length - 1 by have := HI1.out; omega, shf_end hkl]
      exact DelPost.of (n := i) (by have := HI1.out; rw [HLEN.out]; omega) rfl (e ▸ HP.out.1) HP.out.2
/-- p.stop(id), id that of an instance. -/
theorem ids_only {l : List Ins} (hn : (l.map Ins.id).Nodup) {k : Nat} {x : Ins} (hk : l[k]? = some x) : OnlyAt (ids l) k x.id := by
  refine ⟨by unfold ids; rw [List.getElem?_map, hk]; rfl, fun j y hj hy => ?_⟩
  unfold ids at hy
  rw [List.getElem?_map] at hy
  cases hl : l[j]? with
  | none => rw [hl] at hy; cases hy
  | some z =>
    rw [hl] at hy
    injection hy with hy
    exact eqS_no (fun e => hj (ids_ne hn hl hk (hy.trans e)))
/-- What a pool with fewer instances is in memory. -/
def lst (s : PS) (l : List Ins) : PS := ⟨s.nm, s.p, s.now, s.bt, l⟩
theorem ids_erase (l : List Ins) (k : Nat) : ids (l.eraseIdx k) = (ids l).eraseIdx k := by
  unfold ids
  apply List.ext_getElem?
  intro i
  rw [List.getElem?_map, List.getElem?_eraseIdx, List.getElem?_eraseIdx]
  split <;> rw [List.getElem?_map]
theorem PoolAt.slot {w : World} {B p m c : Nat} {A : Option Addr} {s : PS} (h : PoolAt w B p m A c s) (hn : 0 < s.l.length) : ∃ g, A = some ⟨g, 0, none⟩ ∧ g < w.heap.size := by
  obtain ⟨g, cap, e, _, hg⟩ := own_form h.row hn
  injection e with e _ _
  exact ⟨g, e, hg⟩
set_option maxHeartbeats 4000000 in
set_option maxRecDepth 20000 in
theorem stop_any {w : World} {B p m c : Nat} {A : Option Addr} {s : PS} (hP : PoolAt w B p m A c s) (hok : s.ok) {k : Nat} {x : Ins} (hk : s.l[k]? = some x) :
    Calls Tryd.prog 41 #[.pointer (some ⟨p, 0, none⟩), .string x.id] w fun e w' => e = .returned (.tuple #[]) ∧ PoolAt w' B p m A c (lst s (s.l.eraseIdx k)) ∧ Chg (pf p m A) w w' := by
  have hkl : k < s.l.length := (List.getElem?_eq_some_iff.1 hk).1
  obtain ⟨g, rfl, hg⟩ := hP.slot (by omega)
  obtain ⟨hgp, hgm, hpm⟩ := hP.row_ne
  have hgp' : g ≠ p := fun e => hgp (by rw [e]; rfl)
  have hgm' : g ≠ m := fun e => hgm (by rw [e]; rfl)
  have h32 := hok.len32
  have hsz : x.id.size ≤ 9223372036854775807 := by have := (hok.els x (List.mem_of_getElem? hk)).sz; omega
  have hlen : (s.l.eraseIdx k).length + 1 = s.l.length := by rw [List.length_eraseIdx_of_lt hkl]; omega
  have hb0 : Below w.heap.size w (w.alloc (.cells #[.string x.id] 9)) := (Below.refl _ _).alloc (Nat.le_refl _) _
  have hP0 := hP.below hb0
  have bq : Blk (w.alloc (.cells #[.string x.id] 9)) w.heap.size 9 #[.string x.id] := Blk.new w 9 #[.string x.id]
  have HB0 := Lib.hid hb0
  have HD := Lib.hid hok.nodup
  have HK := Lib.hid hk
  have HO := Lib.hid (ids_only hok.nodup hk)
  have hpl := hP.blk.lt
  have hml := hP.map.lt
  have HS := Lib.hid hsz
  clear hP hb0 hok hk hgp hgm hsz
  go_enter Tryd.func41, Tryd.ntmps41
  go_wp2_with fail
  have hq1 : w.heap.size < (w.alloc (.cells #[.string x.id] 9)).heap.size := bq.lt
  generalize w.alloc (.cells #[.string x.id] 9) = W at *
  have q8 : W.cell? ⟨p, 8, none⟩ = some (.map (some m)) := hP0.blk.cell 8
  have qq : W.cell? ⟨w.heap.size, 0, none⟩ = some (.string x.id) := bq.cell 0
  go_still_tail 5, (by kernel_rfl)
  change wpList _ _ _ _ _ W.drew
  have hd : Below W.heap.size W W.drew := below_drewN' W.heap.size W 1
  have HP1 := Lib.hid (hP0.below hd)
  have bq1 := bq.on hd
  have HB1 := Lib.hid (HB0.out.trans (hd.mono HB0.out.size))
  have hz1 : W.heap.size = W.drew.heap.size := rfl
  rw [hz1] at hq1
  clear hP0 bq q8 qq hd HB0 hz1
  generalize W.drew = W1 at *
  obtain ⟨W2, hrun, hM2, hg2⟩ := HP1.out.map.drop (s := x.id) (l' := s.l.eraseIdx k) HS.out (fun t => by rw [← drp_eq HD.out HK.out]; exact lk_drp s.l x.id t) (by rw [lk_at HD.out HK.out, Option.isSome_some, if_pos rfl]; exact hlen) 0
  have HC2 := Lib.hid ((Chg.of_below (S := pf p m (some ⟨g, 0, none⟩)) HB1.out).grown hg2 (fun j hj _ => by injection hj with hj; exact .inr (.inl hj.symm)))
  have hpb2 : Blk W2 p 51 (poolC s m (some ⟨g, 0, none⟩) c) := (hg2.block p HP1.out.blk.lt (fun e => hpm (by injection e))).trans HP1.out.blk
  have bq2 : Blk W2 w.heap.size 9 #[.string x.id] := (hg2.block w.heap.size hq1 (fun e => by injection e with e; omega)).trans bq1
  have hrow2 : W2.ownsRow B 9 1 (.slice (some ⟨g, 0, none⟩) s.l.length c) s.l.length (svals (ids s.l)) := HP1.out.row.kept hg2 (.inr (fun e => hgm' (by injection e)))
  have HM2 := Lib.hid hM2
  have HG2 := Lib.hid hg2
  have hbB := HP1.out.hp
  have hmB := HP1.out.hm
  have hil : (ids s.l).length = s.l.length := List.length_map _
  have HDF := Lib.hid (DeleteFunc_at x.id w.heap.size W2 (bq2.cell 0) B g c k (ids s.l) (by rw [hil]; exact hrow2) (by omega) (by rw [hil]; omega) HO.out)
  rw [hil] at HDF
  have q7 : W2.cell? ⟨p, 7, none⟩ = some (.slice (some ⟨g, 0, none⟩) s.l.length c) := hpb2.cell 7
  have HPB2 := Lib.hid hpb2
  have HHP := Lib.hid (And.intro hbB hmB)
  have hz2 := hpb2.lt
  clear hM2 hg2 hpb2 bq2 hrow2 bq1 hil hbB hmB HB1 HP1 hkl
  go_wp2_with fail
  refine HDF.out.mono ?_
  rintro e W3 ⟨rfl, hrow3, hg3⟩
  have hpb3 : Blk W3 p 51 (poolC s m (some ⟨g, 0, none⟩) c) := (hg3.block p hz2 (fun e => hgp' (by injection e with e; exact e.symm))).trans HPB2.out
  have q7' : W3.cell? ⟨p, 7, none⟩ = some (.slice (some ⟨g, 0, none⟩) s.l.length c) := hpb3.cell 7
  have f7' := hpb3.frozen 7
  have HN := Lib.hid (show ((ids s.l).eraseIdx k).length = (s.l.eraseIdx k).length by rw [← ids_erase]; exact List.length_map _)
  rw [HN.out] at hrow3 ⊢
  have HR3 := Lib.hid hrow3
  have HG3 := Lib.hid hg3
  have HPB3 := Lib.hid hpb3
  clear hrow3 hg3 hpb3
  go_wp2_with fail
  go_end0
  have hc3 : Chg (pf p m (some ⟨g, 0, none⟩)) w W3 := HC2.out.grown HG3.out (fun j hj _ => by injection hj with hj; subst hj; exact .inr (.inr rfl))
  refine ⟨rfl, ⟨HPB3.out.set_ 7 _, ?_, ?_, HHP.out.1, HHP.out.2⟩, hc3.setCell (p := ⟨p, 7, none⟩) (fun _ => .inl rfl) _⟩
  · have h := Chg.own (S := fun i => i = p) ((Chg.refl (fun i => i = p) W3).setCell (p := ⟨p, 7, none⟩) (fun _ => rfl) (.slice (some ⟨g, 0, none⟩) (s.l.eraseIdx k).length c)) HR3.out (fun i hi e => by subst e; exact hgp' (by injection hi))
    show World.ownsRow _ B _ 1 (.slice (some ⟨g, 0, none⟩) (s.l.eraseIdx k).length c) (s.l.eraseIdx k).length (svals (ids (s.l.eraseIdx k)))
    rw [ids_erase]
    exact h
  · have h1 : MapAt W3 m (s.l.eraseIdx k) := HM2.out.chg (S := fun i => i = g) ((Chg.refl (fun i => i = g) W2).grown HG3.out (fun j hj _ => by injection hj with hj; exact hj.symm)) (fun e => hgm' e.symm)
    exact h1.chg (S := fun i => i = p) ((Chg.refl (fun i => i = p) W3).setCell (p := ⟨p, 7, none⟩) (fun _ => rfl) _) (fun e => hpm e.symm)
end Go.Proofs.YtmpaogmfceldjaaDoor
