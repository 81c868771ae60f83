/- BatchGathers returns true whatever its arguments, and its arguments read behind the call as they did. No condition. -/
import Derived.Test.YtfgohjoamifpiaaWL
namespace Go.Proofs.Ytfgohjoamifpiaa
open Go.ChangeShapes Go.WideShapes Go.ChangeAt Go.RowKit
open Go.Sort (grow)

theorem bats_keep {p : Pol} {w3 wr : World} {base g c base3 c3 : Nat} {A A3 : Option Addr} {xs : List RecX} {first now : Int} {bs : List BatchX} (hO : OutInv w3 base3 (.slice A3 bs.length c3) bs) (hbody : ∀ b ∈ bs, ∀ x ∈ b.l, BodyAt w3 w3.heap.size x)
    (hcol : ColC p w3 base g A c xs first now) (hg : g < base3) (hch : Chg (fun k => k = g) w3 wr) : Bats wr A3 bs := by
  refine ⟨Reads.of_own (own_chg hO.row hch fun k hk e => by have := (hO.row.lt k hk).1; omega), fun b hb => ?_⟩
  refine RecsAt.chg (base := 0) ((hO.own b hb).recs (Nat.le_refl _) (hbody b hb)) hch (fun _ _ => Nat.zero_le _) ?_
  rintro k ⟨_, ⟨hn, ad, ha, rfl⟩ | ⟨x, hx, hp, ad, ha, rfl⟩⟩ e
  · have := ((hO.own b hb).2.lt ad.block (by unfold BatchX.val; rw [own_eq, ha]; rfl)).1
    omega
  · exact reads_ne hcol (hbody b hb x hx) hp ad ha e
theorem Bats.take {w : World} {A : Option Addr} {bs : List BatchX} (h : Bats w A bs) {j : Nat} (hj : j ≤ bs.length) : Bats w A (bs.take j) := by
  have hl : (bs.take j).length = j := by rw [List.length_take]; omega
  refine ⟨⟨by rw [List.length_map]; omega, fun hn => ?_⟩, fun b hb => h.2 b (List.mem_of_mem_take hb)⟩
  obtain ⟨b, o, e, hb, hc⟩ := h.1.2 (by omega)
  refine ⟨b, o, e, hb, fun i u hu => hc i u ?_⟩
  rw [List.map_take, List.getElem?_take] at hu
  split at hu
  · exact hu
  · cases hu
theorem own_cap {w : World} {base : Nat} {e : TypeId} {A : Option Addr} {n c : Nat} {xs : List Value} (h : w.ownsRow base e 1 (.slice A n c) n xs) : n ≤ c := by
  rcases h.2 with ⟨h1, h0⟩ | ⟨g, cap, cur, hv, _, _, hnc, _⟩
  · omega
  · injection hv with _ _ h3; omega

def GSt (w3 : World) (s c n : Int) (base g : Nat) (l : List RecX) (m : Int) (k : Nat) (v : Value) (wr : World) : Prop :=
  ∃ out A' c' xs f now', Gat 61 (layC ⟨s, c, n⟩) w3 base g wr v out A' c' xs f now' ∧ GRel s c l k out xs ∧ now' ≤ m ∧ out.length ≤ k

set_option maxRecDepth 8000 in
set_option maxHeartbeats 2000000 in
theorem law_gathers (s c n : Int) (A : Option Addr) (ca : Nat) (l : List RecX) (m : Int) (w : World) (hl : RecsAt w w.heap.size A l) (hn : ∀ x ∈ l, x.r.body.length ≤ maxLen) :
    Calls Try.prog 6 #[.agg #[.int .i64 s, .int .i64 c, .int .i64 n], .slice A l.length ca, .int .i64 m] w fun e w' => e = .returned (.bool true) ∧ Below w.heap.size w w' := by
  obtain ⟨i0, hi0, hy0, hy1, hy2⟩ := info_parts info24
  go_enter Try.func6, Try.ntmps6
  go_wp2_with fail
  have d0 : (w.alloc (.cells #[.int .i64 s, .int .i64 c, .int .i64 n] 23)).cell? ⟨w.heap.size, 0, none⟩ = some (.int .i64 s) := by go_simp
  have d1 : (w.alloc (.cells #[.int .i64 s, .int .i64 c, .int .i64 n] 23)).cell? ⟨w.heap.size, 1, none⟩ = some (.int .i64 c) := by go_simp
  have d2 : (w.alloc (.cells #[.int .i64 s, .int .i64 c, .int .i64 n] 23)).cell? ⟨w.heap.size, 2, none⟩ = some (.int .i64 n) := by go_simp
  have hlow : Below w.heap.size w (w.alloc (.cells #[.int .i64 s, .int .i64 c, .int .i64 n] 23)) := (Below.refl _ _).alloc (Nat.le_refl _) _
  have hz : w.heap.size < (w.alloc (.cells #[.int .i64 s, .int .i64 c, .int .i64 n] 23)).heap.size := by simp
  generalize hW : World.alloc w _ = W at *
  clear hW
  have hlW : RecsAt W W.heap.size A l := (hl.below hlow).more (by omega)
  clear hl
  refine (small_any l A ca W hlW hn).mono ?_
  rintro e w' ⟨rfl, rfl⟩
  cases hs : smallB l
  · clear hs
    go_wp2_with fail
    refine (awake_any _).mono ?_
    rintro e w1 ⟨rfl, hb⟩
    go_wp2_with fail
    go_ret
    exact ⟨rfl, hlow.trans (hb.mono (by omega))⟩
  obtain ⟨hsum, hlen⟩ := small_bd hs
  clear hs
  by_cases h256 : 256 < l.length
  · go_wp2_with fail
    refine (awake_any _).mono ?_
    rintro e w1 ⟨rfl, hb⟩
    go_wp2_with fail
    go_ret
    exact ⟨rfl, hlow.trans (hb.mono (by omega))⟩
  have b1 : decide (256 < l.length) = false := decide_eq_false h256
  by_cases hm0 : m < 0
  · go_wp2_with fail
    refine (awake_any _).mono ?_
    rintro e w1 ⟨rfl, hb⟩
    go_wp2_with fail
    go_ret
    exact ⟨rfl, hlow.trans (hb.mono (by omega))⟩
  have b2 : decide (m < 0) = false := decide_eq_false hm0
  by_cases hm1 : 1073741824 < m
  · go_wp2_with fail
    refine (awake_any _).mono ?_
    rintro e w1 ⟨rfl, hb⟩
    go_wp2_with fail
    go_ret
    exact ⟨rfl, hlow.trans (hb.mono (by omega))⟩
  have b3 : decide (1073741824 < m) = false := decide_eq_false hm1
  go_wp2_with fail
  clear b1 b2 b3
  cases hp : Pol.bad ⟨s, c, n⟩
  · refine (newC_ok s c n W (good_E _ hp)).mono ?_
    rintro e w1 ⟨g, rfl, hg, hcol, hb1⟩
    have hz1 := hb1.size
    have e0 : w1.cell? ⟨w.heap.size, 0, none⟩ = some (.int .i64 s) := (hb1.cell (p := ⟨_, _, _⟩) hz).trans d0
    have e1 : w1.cell? ⟨w.heap.size, 1, none⟩ = some (.int .i64 c) := (hb1.cell (p := ⟨_, _, _⟩) hz).trans d1
    have e2 : w1.cell? ⟨w.heap.size, 2, none⟩ = some (.int .i64 n) := (hb1.cell (p := ⟨_, _, _⟩) hz).trans d2
    clear d0 d1 d2
    go_wp2_with fail
    have hl1 : RecsAt w1 w1.heap.size A l := (hlW.below hb1).more hz1
    refine (Cut_ok s c n A ca l w1 (good_E _ hp) hl1 (by omega) (by omega)).mono ?_
    rintro e w3 ⟨v3, bs, xs0, rfl, hout, hbs, hxs, hbody, hw⟩
    obtain ⟨A3, c3, rfl⟩ := hout.shape
    have hz3 := hw.size
    have hflat : (bs.map (·.l)).flatten = xs0 := by rw [hbs, cutS_flatten]
    have hbody' : ∀ b ∈ bs, ∀ x ∈ b.l, BodyAt w3 w3.heap.size x := fun b hb x hx => hbody x (by rw [← hflat]; exact List.mem_flatten.2 ⟨b.l, List.mem_map.2 ⟨b, hb, rfl⟩, hx⟩)
    obtain ⟨hxb, hxl⟩ := same_len hxs
    have hpl := parts_le (l := l) (bs := bs) (by rw [hflat]; exact hxs)
    have hnb : bs.length ≤ 300 := by
      have := hout.len_le
      rw [hflat] at this
      omega
    have hcutR : bs.map (fun b => b.l.map (·.r)) = cutR s c (l.map (·.r)) := by
      have h1 : bs.map (fun b => b.l.map (·.r)) = (bs.map (·.l)).map (·.map (·.r)) := by rw [List.map_map]; rfl
      rw [h1, hbs, cutR_eq, hxs]
    have hcap : bs.length ≤ c3 := own_cap hout.row
    have hcol3 : ColC ⟨s, c, n⟩ w3 W.heap.size g none 0 [] 0 0 := hcol.below hw
    have hgw : g < w1.heap.size := hcol.lt
    have hG0 : GSt w3 s c n W.heap.size g l m 0 (.slice none 0 0) w3 := by
      refine ⟨[], none, 0, [], 0, 0, ⟨hcol3, World.ownsRow_nil _ _ _ _, Chg.refl _ _, ?_, ?_, by simp, by simp, by omega⟩, .inl ⟨rfl, rfl, rfl⟩, by omega, by simp⟩
      · rintro k ((e | e) | ⟨_, ⟨h0, _⟩ | ⟨z, hz, _⟩⟩)
        · exact .inl e
        · simp at e
        · simp at h0
        · simp at hz
      · intro k hk; simp [Value.ownBlock] at hk
    have HO := Lib.hid hout
    have HBY := Lib.hid hbody'
    have HCR := Lib.hid hcutR
    have HPL := Lib.hid hpl
    have HC3 := Lib.hid hcol3
    have HL3 : Hid (RecsAt w3 W.heap.size A l) := (hlW.below hb1).below (hw.mono hz1)
    have HLOW := Lib.hid (hlow.trans ((hb1.mono (by omega)).trans (hw.mono (by omega))))
    clear hout hbs hxs hbody hbody' hflat hxb hxl hpl hcutR hcol hcol3 hw hb1 e0 e1 e2 hlW hl1
    have hz4 : w.heap.size ≤ w3.heap.size := by omega
    have hz5 : W.heap.size ≤ w3.heap.size := by omega
    go_wp2_with fail
    go_loopw [11, 59] (fun v i wr => ∃ (k : Nat) (vv : Value), k ≤ l.length ∧ i = .int .i64 k ∧ vv = v ∧ GSt w3 s c n W.heap.size g l m k vv wr) (fun _ i _ => l.length - (intOf i).toNat)
    case atStart => exact ⟨0, _, Nat.zero_le _, rfl, rfl, hG0⟩
    case round =>
      obtain ⟨k, v, hk, rfl, rfl, out, A', c', xs, f, now', hG, hR, hnow, hol⟩ := hrel
      clear hG0
      have hbB : Below W.heap.size w3 wr := hG.low.toBelow (fun k e => by subst e; exact hg) hz5
      have hlr : RecsAt wr W.heap.size A l := HL3.out.below hbB
      have hzr : W.heap.size ≤ wr.heap.size := Nat.le_trans hz5 hbB.size
      have HG := Lib.hid hG
      have HR := Lib.hid hR
      have HBB := Lib.hid hbB
      clear hG hR hbB
      by_cases hlt : k < l.length
      · obtain ⟨b, o, hA, hbl, ⟨c0, c1, c2, c3', c4, c5, c6, c7, c8, c9⟩⟩ := hlr.ten hlt
        subst hA
        obtain ⟨q1, q2⟩ := HR.out.bound hlt
        have hxbod : BodyAt wr wr.heap.size l[k] := Reads.more (hlr.2 _ (List.getElem_mem hlt)) hzr
        have hx0 : 0 < l[k].r.body.length → ∀ ad, l[k].ba = some ad → ¬ hot g A' ad.block := fun hp ad ha hh => by
          obtain ⟨b', o', e, hb', _⟩ := (hlr.2 _ (List.getElem_mem hlt)).2 hp
          rw [ha] at e; injection e with e; subst e
          have := HG.out.col.hot_ge _ hh
          simp only at this
          omega
        cases hF : fitsB s c xs l[k]
        · have hxs0 : 0 < xs.length := by
            cases xs with
            | nil => simp [fitsB] at hF
            | cons z zs => simp
          have hA := addC_full (p := ⟨s, c, n⟩) m l[k] HG.out.col (by omega) (by omega) hnow hF (by omega) (by omega) hxbod hx0
          simp only [RecX.cells] at hA
          have HA := Lib.hid hA
          clear hA hxbod hx0
          go_wp2_with fail
          refine HA.out.mono ?_
          rintro e w4 ha
          obtain ⟨A4, c4', x', rfl, hxr, hG4, hr4, hap⟩ := HG.out.full ha
          have HG4 := Lib.hid hG4
          have HR4 := Lib.hid (And.intro hr4 hap)
          have HRn := Lib.hid (HR.out.full hlt hF hxr A' c')
          clear ha hxr hG4 hr4 hap c0 c1 c2 c3' c4 c5 c6 c7 c8 c9 HA
          have hz6 : w3.heap.size ≤ w4.heap.size := HG4.out.low.size
          go_wp2_with (at_builtin; go_must (refine wpList_append_any _ rfl (.tmp 77) (.tmp 79) 27 rfl w3.heap.size 24 i0 (.slice none 0 0) 1 24 Try.underlying27 hi0 hy0 hy1 hy2 rfl (by decide) v out.length (out.map BatchX.val) rfl (HG4.out.row.alloc _) (w4.heap.size + 1) (some ⟨w4.heap.size, 0, none⟩) 1 1 [.slice A' xs.length c'] rfl ⟨rfl, fun _ => ⟨_, _, rfl, by omega, fun j u hu => by have := cells_new_at (w := w4) (e := 24) (g := w4.heap.size) rfl j u hu; rwa [Addr.add_lit] at this⟩⟩ (by intro u hu; simp at hu; subst hu; rfl) (Nat.le_trans (show out.length + 1 ≤ 1000 by omega) (by decide)) (by omega) (by simp; omega) ?_); intro v' w5 hown hgr hblk; have HN := Lib.hid (HG4.out.push ⟨A', c', xs⟩ HR4.out.1 HR4.out.2 hown hgr hblk); clear hown hgr hblk)
          go_roundw
          case rel => exact ⟨k + 1, v', by omega, by go_num, rfl, ⟨_, _, _, _, _, _, HN.out, HRn.out, Int.le_refl _, by simp; omega⟩⟩
          case measure => simp [intOf]; omega
        · have hA := addC_fit (p := ⟨s, c, n⟩) m l[k] HG.out.col (by omega) (by omega) hnow hF (by omega) (by omega) hxbod hx0
          simp only [RecX.cells] at hA
          have HA := Lib.hid hA
          clear hA hxbod hx0
          go_wp2_with fail
          refine HA.out.mono ?_
          rintro e w4 ha
          obtain ⟨A4, c4', x', rfl, hxr, hG4⟩ := HG.out.fit ha
          have HN : Hid (GSt w3 s c n W.heap.size g l m (k + 1) v w4) := ⟨out, A4, c4', xs ++ [x'], _, m, hG4, HR.out.fit hlt hF hxr, Int.le_refl _, by omega⟩
          clear ha hxr hG4 c0 c1 c2 c3' c4 c5 c6 c7 c8 c9 HA
          go_wp2_with fail
          go_roundw
          case rel => exact ⟨k + 1, v, by omega, by go_num, rfl, HN.out⟩
          case measure => simp [intOf]; omega
      · obtain rfl : k = l.length := by omega
        have hB3 := bats_keep HO.out HBY.out HC3.out hgw HG.out.low
        have hxl : xs.length ≤ 1000 := by
          rcases Nat.eq_zero_or_pos l.length with h0 | h0
          · rcases HR.out with ⟨_, _, hx⟩ | ⟨ini, last, h1, _, _⟩
            · simp [hx]
            · have : l = [] := List.eq_nil_of_length_eq_zero h0
              subst this
              simp [cutS] at h1
          · obtain ⟨_, _, hb, hx⟩ := HR.out.final h0 HCR.out
            have := (HPL.out _ (List.getElem_mem hb)).2
            omega
        have HB3 := Lib.hid hB3
        clear hB3 HL3
        go_wp2_with fail
        refine (lenC_any HG.out.col (by omega)).mono ?_
        rintro e w6 ⟨rfl, rfl⟩
        by_cases hl0 : l.length = 0
        · have g0 : ((l.length : Int) == 0) = true := by simp [hl0]
          have g1 : ((xs.length : Int) == 0) = true := by
            rcases HR.out with ⟨_, _, hx⟩ | ⟨ini, last, h1, _, _⟩
            · simp [hx]
            · have : l = [] := List.eq_nil_of_length_eq_zero hl0
              subst this
              simp [cutS] at h1
          have g2 : ((bs.length : Int) == 0) = true := by
            have : l = [] := List.eq_nil_of_length_eq_zero hl0
            have h1 := HCR.out
            subst this
            have := congrArg List.length h1
            simp [cutR] at this
            simp [this]
          have HBW := Lib.hid (HLOW.out.trans (HBB.out.mono (by omega)))
          have hz7 := HBB.out.size
          clear HG HR HBB HB3 HCR HPL HO HBY HC3
          go_wp2_with fail
          refine (awake_any _).mono ?_
          rintro e w7 ⟨rfl, hb7⟩
          go_wp2_with fail
          go_ret
          exact ⟨rfl, HBW.out.trans (hb7.mono (by omega))⟩
        · have g0 : ((l.length : Int) == 0) = false := beq_eq_false_iff_ne.2 (by omega)
          obtain ⟨hbl, hmap, hlt, hxe⟩ := HR.out.final (by omega) HCR.out
          have g1 : ((out.length : Int) + 1 == (bs.length : Int)) = true := by rw [hbl]; simp
          have htl : (bs.take out.length).length = out.length := by rw [List.length_take]; omega
          have hcap' : out.length ≤ c3 := by omega
          have hbo : Bats wr A3 (bs.take out.length) := HB3.out.take (by omega)
          have hba : ∃ Av cv, v = .slice Av out.length cv ∧ Bats wr Av out := by
            rcases HG.out.row.2 with ⟨hv, h0⟩ | ⟨gg, cap, cur, hv, _⟩
            · exact ⟨none, 0, by rw [hv, h0], by have h1 := HG.out.row; rw [hv, ← h0] at h1; rw [h0] at h1; exact ⟨by have h2 : out = [] := List.eq_nil_of_length_eq_zero h0; subst h2; exact Reads.none_, HG.out.recs⟩⟩
            · exact ⟨_, cap, hv, Reads.of_own (hv ▸ HG.out.row), HG.out.recs⟩
          obtain ⟨Av, cv, rfl, hbv⟩ := hba
          have hob : ∀ b ∈ out, sumBody b.l ≤ 1000000 ∧ b.l.length ≤ 1000000 := by
            intro b hb
            obtain ⟨i, hi, rfl⟩ := List.getElem_of_mem hb
            have h1 := congrArg (fun z => z[i]?) hmap
            simp only [List.getElem?_map] at h1
            rw [List.getElem?_eq_getElem hi, List.getElem?_take, if_pos hi, List.getElem?_eq_getElem (by omega)] at h1
            simp only [Option.map_some, Option.some.injEq] at h1
            obtain ⟨r1, r2⟩ := same_len h1
            have := HPL.out _ (List.getElem_mem (show i < bs.length by omega))
            omega
          have hS : Calls Try.prog 14 #[.slice Av out.length cv, .slice A3 out.length c3] wr fun e w' => e = .returned (.bool true) ∧ Below wr.heap.size wr w' := by
            have := SameB_any out (bs.take out.length) Av A3 cv c3 wr hbv hbo hmap hob (by omega)
            rwa [htl] at this
          have HS := Lib.hid hS
          obtain ⟨b3, o3, hA3, hb3, hx3⟩ := HB3.out.get hlt
          subst hA3
          have HBW := Lib.hid (HLOW.out.trans (HBB.out.mono (by omega)))
          have hz7 : w.heap.size ≤ wr.heap.size := by have := HBB.out.size; omega
          clear HG HR HBB HB3 HCR HPL HO HBY HC3 hS hob hbv hbo hmap
          rw [hxe]
          rw [hxe] at hxl
          have hltI : (out.length : Int) < bs.length := by omega
          go_wp2_with fail
          refine HS.out.mono ?_
          rintro e w8 ⟨rfl, hb8⟩
          have hx8 := (hb8.cell (p := ⟨b3, o3 + out.length, none⟩) hb3).trans hx3
          have hz8 := hb8.size
          go_wp2_with fail
          refine (awake_any _).mono ?_
          rintro e w9 ⟨rfl, hb9⟩
          go_wp2_with fail
          go_ret
          exact ⟨rfl, HBW.out.trans ((hb8.mono (by omega)).trans (hb9.mono (by omega)))⟩
  · refine (newC_bad s c n W (bad_E _ hp)).mono ?_
    rintro e w1 ⟨rfl, hb1⟩
    have hz1 := hb1.size
    have e0 : w1.cell? ⟨w.heap.size, 0, none⟩ = some (.int .i64 s) := (hb1.cell (p := ⟨_, _, _⟩) hz).trans d0
    have e1 : w1.cell? ⟨w.heap.size, 1, none⟩ = some (.int .i64 c) := (hb1.cell (p := ⟨_, _, _⟩) hz).trans d1
    have e2 : w1.cell? ⟨w.heap.size, 2, none⟩ = some (.int .i64 n) := (hb1.cell (p := ⟨_, _, _⟩) hz).trans d2
    clear d0 d1 d2
    go_wp2_with fail
    refine (Cut_bad s c n A ca l w1 (bad_E _ hp)).mono ?_
    rintro e w2 ⟨rfl, hb2⟩
    have hz2 := hb2.size
    go_wp2_with fail
    refine (awake_any _).mono ?_
    rintro e w3 ⟨rfl, hb3⟩
    go_wp2_with fail
    go_ret
    exact ⟨rfl, hlow.trans ((hb1.mono (by omega)).trans ((hb2.mono (by omega)).trans (hb3.mono (by omega))))⟩

set_option maxRecDepth 100000 in
theorem batchGathers_lifted (os : Os) (started : os.Started) (H : Type) (enc : TypeId × Value → H) :
    ReturnsInHanded {} Try.checked os 6 .any (Rows.batchGathersSpec.pre6 enc Try.prog Try.f6 Rows.batchGathersRow.domain false) (Rows.batchGathersSpec.post enc Try.prog Try.f6 false true false false) := by
  refine returnsInHanded_of_change (C := Try.checked) Try.own started (by kernel_rfl) Try.func6
    (ChangeSpec.witness6 (enc := enc) (C := Try.checked) false ⟨#[], #[.agg #[.int .i64 0, .int .i64 0, .int .i64 0], .slice none 0 0, .int .i64 0], []⟩ 8 (by kernel_rfl) (by kernel_rfl) (by kernel_rfl) (by kernel_rfl)) ?_
  intro W base args ds gs before hval0 hW _ _
  have hval : ∀ (j : Nat) t v, Try.f6.params[j]? = some t → args[j]? = some v → Value.okWide Try.prog W .any base t v := hval0
  have hW' := hW
  obtain ⟨p, q, hA0, hV, rfl, hfz, hnd⟩ := hW
  have hA : DataW.TrodAll enc Try.prog W 0 (fun _ => true) true Try.f6.params.toList args.toList ds p := hA0
  have hA2 := hA
  rw [Try.params6] at hA hval
  obtain ⟨v0, v1, v2, d0, d1, d2, p0, p1, p2, rfl, rfl, rfl, h0, h1, h2⟩ := trodAll_three hA
  obtain ⟨rfl, rfl⟩ := trodVars_none hV
  obtain ⟨s, c, n, rfl⟩ := open_pol (hval 0 23 v0 rfl rfl) h0
  obtain ⟨A, ca, l, rfl, hl, hb, _⟩ := open_recs (okWide_slice Try.underlying24 (hval 1 24 v1 rfl rfl)) h1
  obtain ⟨m, rfl, rfl, rfl, wm⟩ := open_int Try.underlying3 (hval 2 3 v2 rfl rfl) h2
  clear hA0 hval0
  simp only [List.append_nil] at hW' hA2
  refine (law_gathers s c n A ca l m W hl hb).mono fun e W' ⟨he, hw⟩ => ?_
  subst he
  refine ⟨_, rfl, _, _, _, [], p0 ++ p1, [], hW', trodAll_mk1 (shut_bool Try.underlying4 true), ?_, rfl, hw.frame _, fun h => by cases h⟩
  refine below_trodAll hw _ _ _ _ ?_ (fun x hx => by simpa using hW'.lt x hx) hA2
  rw [Try.params6]
  intro t ht
  simp only [List.mem_cons, List.not_mem_nil, or_false] at ht
  rcases ht with rfl | rfl | rfl
  · exact ⟨by kernel_rfl, of_decide_eq_true (by kernel_rfl)⟩
  · exact ⟨by kernel_rfl, of_decide_eq_true (by kernel_rfl)⟩
  · exact ⟨by kernel_rfl, of_decide_eq_true (by kernel_rfl)⟩

theorem batchGathers_holds : Rows.BatchGathersSaid :=
  OpenClaim.holds_of_wide 6 Try.f6 rfl rfl rfl rfl rfl rfl rfl ⟨rfl, rfl, rfl, rfl, rfl⟩ rfl rfl rfl rfl rfl (by kernel_rfl) Try.func6 (by kernel_rfl)
    (of_decide_eq_true (by kernel_rfl)) (by unfold Func.isWrapper; first | (rw [if_pos (by decide +kernel)]; kernel_rfl) | (rw [if_neg (by decide +kernel)]; exact ⟨rfl, rfl⟩))
    (fun os started H enc _ => batchGathers_lifted os started H enc)
#print axioms batchGathers_holds
end Go.Proofs.Ytfgohjoamifpiaa
