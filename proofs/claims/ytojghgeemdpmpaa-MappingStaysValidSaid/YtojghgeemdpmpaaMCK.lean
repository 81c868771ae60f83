/- The records that can be delivered: plain words, the program's walk. -/
import Derived.Test.YtojghgeemdpmpaaMCJ
import Derived.WalkMore
namespace Go.Proofs.Ytojghgeemdpmpaa
open Go.RowKit
open Go.Sort (grow)

def candF (nx : Int) (l : List Rec) : List Rec := l.filter fun x => decide (nx ≤ x.seq)
/-- The records that can be delivered. -/
def cand (nx li : Int) (l : List Rec) : List Rec := if li = 0 then candF nx l else (candF nx l).take li.toNat
section
variable {nx li : Int} {l : List RecX} {k : Nat}
theorem candF_snoc (hk : k < l.length) : candF nx ((l.take (k + 1)).map (·.r)) = candF nx ((l.take k).map (·.r)) ++ (if nx ≤ l[k].r.seq then [l[k].r] else []) := by
  unfold candF
  rw [List.take_succ_eq_append_getElem hk, List.map_append, List.filter_append]
  by_cases h : nx ≤ l[k].r.seq <;> simp [h]
theorem cand_skip (hk : k < l.length) (h : ¬ nx ≤ l[k].r.seq) : cand nx li ((l.take (k + 1)).map (·.r)) = cand nx li ((l.take k).map (·.r)) := by
  unfold cand
  rw [candF_snoc hk, if_neg h, List.append_nil]
theorem cand_push (hk : k < l.length) (h : nx ≤ l[k].r.seq) (h0 : 0 ≤ li) (h2 : li = 0 ∨ ((cand nx li ((l.take k).map (·.r))).length : Int) < li) : cand nx li ((l.take (k + 1)).map (·.r)) = cand nx li ((l.take k).map (·.r)) ++ [l[k].r] := by
  unfold cand at h2 ⊢
  rw [candF_snoc hk, if_pos h]
  rcases h2 with h2 | h2
  · rw [if_pos h2, if_pos h2]
  · by_cases hz : li = 0
    · rw [if_pos hz, if_pos hz]
    · rw [if_neg hz] at h2
      rw [if_neg hz, if_neg hz]
      rw [List.length_take] at h2
      generalize candF nx ((l.take k).map (·.r)) = X at *
      have h3 : X.length < li.toNat := by omega
      have e1 : X.take li.toNat = X := List.take_of_length_le (by omega)
      have e2 : (X ++ [l[k].r]).take li.toNat = X ++ [l[k].r] := List.take_of_length_le (by simp; omega)
      rw [e1, e2]
theorem cand_full1 (hk : k < l.length) (hz : li ≠ 0) (h2 : li ≤ ((cand nx li ((l.take k).map (·.r))).length : Int)) : cand nx li ((l.take (k + 1)).map (·.r)) = cand nx li ((l.take k).map (·.r)) := by
  unfold cand at h2 ⊢
  rw [if_neg hz] at h2
  rw [candF_snoc hk, if_neg hz, if_neg hz]
  rw [List.length_take] at h2
  rw [List.take_append_of_le_length (by omega)]
theorem cand_full (hz : li ≠ 0) (h2 : li ≤ ((cand nx li ((l.take k).map (·.r))).length : Int)) : cand nx li (l.map (·.r)) = cand nx li ((l.take k).map (·.r)) := by
  have hs : l.map (·.r) = (l.take k).map (·.r) ++ (l.drop k).map (·.r) := by rw [← List.map_append, List.take_append_drop]
  unfold cand at h2 ⊢
  rw [if_neg hz] at h2
  rw [if_neg hz, if_neg hz, hs]
  unfold candF at h2 ⊢
  rw [List.length_take] at h2
  rw [List.filter_append, List.take_append_of_le_length (by omega)]
theorem cand_sub (l : List Rec) : (cand nx li l).Sublist l := by
  unfold cand candF
  split
  · exact List.filter_sublist
  · exact (List.take_sublist _ _).trans List.filter_sublist
theorem cand_le (l : List Rec) : (cand nx li l).length ≤ l.length := (cand_sub l).length_le
theorem cand_lim (h0 : 0 ≤ li) (hz : li ≠ 0) (l : List Rec) : ((cand nx li l).length : Int) ≤ li := by
  unfold cand
  rw [if_neg hz, List.length_take]
  omega
end
/-- What holds at the head of a round. -/
structure CandAt (w1 : World) (nx li : Int) (l : List RecX) (k : Nat) (v : Value) (wr : World) : Prop where
  low : Below w1.heap.size w1 wr
  ex : ∃ xs : List RecX, MineInv wr w1.heap.size v xs ∧ xs.map (·.r) = cand nx li ((l.take k).map (·.r))
def CandPost (nx li : Int) (l : List RecX) (w : World) (e : Ending) (w' : World) : Prop :=
  ∃ (v : Value) (xs : List RecX), e = .returned v ∧ MineInv w' w.heap.size v xs ∧ xs.map (·.r) = cand nx li (l.map (·.r)) ∧ Below w.heap.size w w'
theorem MineInv.base {w : World} {base base' : Nat} {v : Value} {xs : List RecX} (h : MineInv w base v xs) (hb : base' ≤ base) : MineInv w base' v xs := ⟨own_base h.row hb, h.body, h.apart⟩
set_option maxHeartbeats 4000000 in
set_option maxRecDepth 20000 in
theorem candidates_any (sh nx fl ac fi wa li : Int) (A : Option Addr) (ca : Nat) (l : List RecX) (w : World) (hl : RecsAt w w.heap.size A l) (hb : okB l) (hn : l.length ≤ 256) (hli : 0 ≤ li) :
    Calls Try.prog 32 #[.agg #[.int .i64 sh, .int .i64 nx, .int .i64 fl, .int .i64 ac, .int .i64 fi, .int .i64 wa, .int .i64 li], .slice A l.length ca] w (CandPost nx li l w) := by
  obtain ⟨i1, hi1, hy0, hy1, hy2⟩ := info_parts info39
  have HL0 := Lib.hid hl
  have hn0 := Nat.le_refl w.heap.size
  clear hl
  go_enter Try.func32, Try.ntmps32
  go_wp2_with fail
  go_step3
  go_wp2_with fail
  have bs : Blk ((w).alloc (.cells #[.int .i64 sh, .int .i64 nx, .int .i64 fl, .int .i64 ac, .int .i64 fi, .int .i64 wa, .int .i64 li] 23)) (w.heap.size) 23 #[.int .i64 sh, .int .i64 nx, .int .i64 fl, .int .i64 ac, .int .i64 fi, .int .i64 wa, .int .i64 li] := Blk.new _ _ _
  have HB1 := Lib.hid (show Below w.heap.size w ((w).alloc (.cells #[.int .i64 sh, .int .i64 nx, .int .i64 fl, .int .i64 ac, .int .i64 fi, .int .i64 wa, .int .i64 li] 23)) from (Below.refl w.heap.size w).alloc (by first | exact Nat.le_refl _ | omega | (simp; done) | (simp; omega)) _)
  generalize (w).alloc (.cells #[.int .i64 sh, .int .i64 nx, .int .i64 fl, .int .i64 ac, .int .i64 fi, .int .i64 wa, .int .i64 li] 23) = w1 at *
  have hz1 : w.heap.size ≤ w1.heap.size := HB1.out.size
  have HL := Lib.hid (HL0.out.below HB1.out)
  clear HL0
  have hgl := bs.lt
  go_step3
  go_wp2_with fail
  go_loopw [5, 7, 10] (fun v _ i wr => ∃ (k : Nat) (vv : Value), k ≤ l.length ∧ i = .int .i64 k ∧ vv = v ∧ CandAt w1 nx li l k vv wr) (fun _ _ i _ => l.length - (intOf i).toNat)
  case atStart => exact ⟨0, _, Nat.zero_le _, rfl, rfl, ⟨Below.refl _ _, [], MineInv.nil _ _, by unfold cand candF; simp⟩⟩
  case round =>
    obtain ⟨k, v, hk, rfl, rfl, hbr, xs, hinv, hxs⟩ := hrel
    have hzr : w1.heap.size ≤ wr.heap.size := hbr.size
    have hxl : xs.length ≤ 256 := by have h1 := congrArg List.length hxs; have h2 := cand_le (nx := nx) (li := li) ((l.take k).map (·.r)); simp at h1 h2; omega
    have hxl2 : xs.length = (cand nx li ((l.take k).map (·.r))).length := by have h1 := congrArg List.length hxs; simpa using h1
    obtain ⟨A', c', rfl⟩ := hinv.shape
    have bsr := bs.on hbr
    have q1 : wr.cell? ⟨w.heap.size, 1, none⟩ = some (.int .i64 nx) := bsr.cell 1
    have q6 : wr.cell? ⟨w.heap.size, 6, none⟩ = some (.int .i64 li) := bsr.cell 6
    have HLR := Lib.hid (HL.out.below (hbr.mono (by omega)))
    have HX := Lib.hid hxs
    have HXL := Lib.hid hxl2
    have HB := Lib.hid hbr
    have HI := Lib.hid hinv
    clear hxs hxl2 hbr hinv bsr
    by_cases hlt : k < l.length
    · obtain ⟨b, o, hA, hbl, ⟨c0, c1, c2, c3, c4, c5, c6, c7, c8, c9⟩⟩ := HLR.out.ten hlt
      subst hA
      have hbw : b < wr.heap.size := by omega
      have hgw : w.heap.size < wr.heap.size := by omega
      have hki : (k : Int) < l.length := by omega
      rcases decide_cases (l[k].r.seq < nx) with ⟨h1, h1b⟩ | ⟨h1, h1b⟩
      · have HO := Lib.hid (HX.out.trans (cand_skip (li := li) hlt (by omega : ¬ nx ≤ l[k].r.seq)).symm)
        go_wp2_with fail
        go_roundw
        case rel => exact ⟨k + 1, _, by omega, by go_num, rfl, ⟨HB.out.alloc hzr _, xs, HI.out.below ((Below.refl _ _).alloc (Nat.le_refl _) _), HO.out⟩⟩
        case measure => simp [intOf]; omega
      · have HNX := Lib.hid (show nx ≤ l[k].r.seq by omega)
        have HB1 := HB1
        by_cases h2 : li ≠ 0 ∧ (xs.length : Int) = li
        · obtain ⟨h2a, h2b⟩ := h2
          have HO := Lib.hid (HX.out.trans (cand_full (k := k) (l := l) h2a (by rw [← HXL.out]; omega)).symm)
          have g1 : (li != 0) = true := bne_iff_ne.2 h2a
          have g2 : ((xs.length : Int) == li) = true := beq_iff_eq.2 h2b
          clear h2a h2b
          go_wp2_with fail
          go_ret
          exact ⟨_, xs, rfl, (HI.out.below ((Below.refl _ _).alloc (Nat.le_refl _) _)).base (by omega), HO.out, HB1.out.trans ((HB.out.alloc hzr _).mono (by omega))⟩
        · have HO := Lib.hid (cand_push hlt HNX.out hli (by
            rw [← HXL.out]
            by_cases hz : li = 0
            · exact .inl hz
            · right
              have := cand_lim (nx := nx) hli hz ((l.take k).map (·.r))
              rw [← HXL.out] at this
              have h3 : (xs.length : Int) ≠ li := fun hh => h2 ⟨hz, hh⟩
              omega))
          have hbk : l[k].r.body.length ≤ 3518437208780 := hb _ (List.getElem_mem hlt)
          have HBODY := Lib.hid (show BodyAt wr w.heap.size l[k] from HLR.out.2 _ (List.getElem_mem hlt))
          have h3 : (li != 0) = false ∨ ((li != 0) = true ∧ ((xs.length : Int) == li) = false) := by
            by_cases hz : li = 0
            · left; simp [hz]
            · right; exact ⟨bne_iff_ne.2 hz, beq_eq_false_iff_ne.2 fun hh => h2 ⟨hz, hh⟩⟩
          clear h2
          rcases h3 with g1 | ⟨g1, g2⟩
          all_goals
            go_wp2_with fail
            refine (clone_any l[k].ba l[k].bc l[k].r.body _ (Reads.more (Reads.below HBODY.out ((Below.refl _ _).alloc (by omega) _)) (by simp; omega)) hbk).mono ?_
            rintro e w2 ⟨A2, c2', rfl, hr2, hf2, hb2⟩
            have hz2 : wr.heap.size + 1 ≤ w2.heap.size := by have := hb2.size; simpa using this
            have br : Blk w2 wr.heap.size 54 l[k].cells.toArray := (Blk.new _ _ _).on hb2
            have p0 : w2.cell? ⟨wr.heap.size, 0, none⟩ = some (.int .i64 l[k].r.shard) := br.cell 0
            have p1 : w2.cell? ⟨wr.heap.size, 1, none⟩ = some (.int .i64 l[k].r.seq) := br.cell 1
            have p2 : w2.cell? ⟨wr.heap.size, 2, none⟩ = some (.int .i64 l[k].r.at_) := br.cell 2
            have p3 : w2.cell? ⟨wr.heap.size, 3, none⟩ = some (.string l[k].r.id) := br.cell 3
            have p4 : w2.cell? ⟨wr.heap.size, 4, none⟩ = some (.string l[k].r.tenant) := br.cell 4
            have p5 : w2.cell? ⟨wr.heap.size, 5, none⟩ = some (.string l[k].r.source) := br.cell 5
            have p6 : w2.cell? ⟨wr.heap.size, 6, none⟩ = some (.string l[k].r.key) := br.cell 6
            have p7 : w2.cell? ⟨wr.heap.size, 7, none⟩ = some (.int .i64 l[k].r.eat) := br.cell 7
            have p8 : w2.cell? ⟨wr.heap.size, 8, none⟩ = some (.string l[k].r.cause) := br.cell 8
            have p9 : w2.cell? ⟨wr.heap.size, 9, none⟩ = some (.slice l[k].ba l[k].r.body.length l[k].bc) := br.cell 9
            have pf : w2.frozen? ⟨wr.heap.size, 9, none⟩ = false := br.frozen 9
            have hlow2 : Below w1.heap.size w1 (w2.setCell ⟨wr.heap.size, 9, none⟩ (.slice A2 l[k].r.body.length c2')) := ((HB.out.alloc hzr _).trans (hb2.mono (by simp; omega))).setCell (by simpa using hzr) _
            have hinv2 : MineInv (w2.setCell ⟨wr.heap.size, 9, none⟩ (.slice A2 l[k].r.body.length c2')) w1.heap.size (.slice A' xs.length c') xs := HI.out.below ((((Below.refl _ _).alloc (Nat.le_refl _) _).trans (hb2.mono (by simp))).setCell (by simp) _)
            have hxb : BodyAt (w2.setCell ⟨wr.heap.size, 9, none⟩ (.slice A2 l[k].r.body.length c2')) (w2.setCell ⟨wr.heap.size, 9, none⟩ (.slice A2 l[k].r.body.length c2')).heap.size ⟨l[k].r, A2, c2'⟩ := by
              refine Reads.set (p := ⟨wr.heap.size, 9, none⟩) ?_ (fun ad ha => by have := hf2 ad ha; simp only [World.size_alloc] at this; show ad.block ≠ wr.heap.size; omega) _
              exact Reads.more hr2 (by simp [World.setCell])
            have hxa : 0 < (⟨l[k].r, A2, c2'⟩ : RecX).r.body.length → ∀ ad, (⟨l[k].r, A2, c2'⟩ : RecX).ba = some ad → (Value.slice A' xs.length c').ownBlock ≠ some ad.block := by
              intro _ ad ha e
              have h1 := hf2 ad ha
              have h2 := (HI.out.row.lt _ e).2
              simp only [World.size_alloc] at h1
              omega
            have HLOW := Lib.hid hlow2
            have HI2 := Lib.hid hinv2
            have HXB := Lib.hid hxb
            have HXA := Lib.hid hxa
            have hzs : (w2.setCell ⟨wr.heap.size, 9, none⟩ (.slice A2 l[k].r.body.length c2')).heap.size = w2.heap.size := by simp [World.setCell]
            clear c0 c1 c2 c3 c4 c5 c6 c7 c8 c9 hb2 hf2 hr2 br hlow2 hinv2 hxb hxa hzs q1 q6
            go_wp2_with (at_builtin; go_must (refine wpList_append_any _ rfl (.tmp 37) (.tmp 39) 28 rfl w1.heap.size 54 i1 _ 10 136 Try.underlying28 hi1 hy0 hy1 hy2 rfl (by decide) (.slice A' xs.length c') xs.length _ rfl (HI2.out.row.alloc _) (w2.heap.size + 1) (some ⟨w2.heap.size, 0, none⟩) 1 1 (RecX.cells ⟨l[k].r, A2, c2'⟩) rfl ⟨rfl, fun _ => ⟨_, _, rfl, by omega, fun j u hu => by have := cells_new_at (w := w2.setCell ⟨wr.heap.size, 9, none⟩ (.slice A2 l[k].r.body.length c2')) (e := 54) (g := w2.heap.size) (by simp [World.setCell]) j u hu; rwa [Addr.add_lit] at this⟩⟩ (RecX.oneCell _) (by simp [maxLen]; omega) (by omega) (by simp [World.setCell]; omega) ?_); intro v' w3 hown hgr hblk)
            have hb3 : Below w1.heap.size w1 w3 := (HLOW.out.alloc (by simp [World.setCell]; omega) _).grown hgr (by simp [World.setCell]; omega) (fun k hk => (HI2.out.row.lt k hk).1)
            go_roundw
            case rel => exact ⟨k + 1, v', by omega, by go_num, rfl, ⟨hb3, xs ++ [⟨l[k].r, A2, c2'⟩], MineInv.push HI2.out HXB.out rfl HXA.out hown hgr hblk, by rw [List.map_append, HX.out, HO.out]; rfl⟩⟩
            case measure => simp [intOf]; omega
    · obtain rfl : k = l.length := by omega
      have HO := Lib.hid (HX.out.trans (by rw [List.take_length]))
      go_wp2_with fail
      go_ret
      exact ⟨_, xs, rfl, HI.out.base (by omega), HO.out, HB1.out.trans (HB.out.mono (by omega))⟩
end Go.Proofs.Ytojghgeemdpmpaa
