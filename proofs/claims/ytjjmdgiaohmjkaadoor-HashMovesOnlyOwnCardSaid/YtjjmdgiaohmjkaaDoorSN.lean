/- HashMovesOnlyOwn walked. -/
import Derived.Test.YtjjmdgiaohmjkaaDoorSL
namespace Go.Proofs.YtjjmdgiaohmjkaaDoor
open Go.RowKit
open Go.Sort (grow)

/-! ### the node that is removed -/
def restL {α : Type} (l : List α) (a : Nat) : List α := l.take a ++ l.drop (a + 1)
theorem restL_len {α : Type} {l : List α} {a : Nat} (h : a < l.length) : (restL l a).length = l.length - 1 := by
  simp [restL]; omega
theorem restL_mem {α : Type} {l : List α} {a : Nat} {x : α} (h : x ∈ restL l a) : x ∈ l := by
  rcases List.mem_append.1 h with h | h
  · exact List.mem_of_mem_take h
  · exact List.mem_of_mem_drop h
theorem restL_scS (key : ByteArray) (l : List ByteArray) (a : Nat) : scS key (restL l a) = restL (scS key l) a := by
  simp [scS, restL]
def shi (a j : Nat) : Nat := if j < a then j else j + 1
theorem restL_get (S : List Int) (a j : Nat) (h : a < S.length) : (restL S a).getD j 0 = S.getD (shi a j) 0 := by
  unfold restL shi
  rw [List.getD_eq_getElem?_getD, List.getD_eq_getElem?_getD, List.getElem?_append]
  have hl : (S.take a).length = a := by rw [List.length_take]; omega
  rw [hl]
  by_cases c : j < a
  · rw [if_pos c, if_pos c, List.getElem?_take, if_pos c]
  · rw [if_neg c, if_neg c, List.getElem?_drop, show a + 1 + (j - a) = j + 1 by omega]
theorem least_rest {S : List Int} {a i k : Nat} (ha : a < S.length) (hi : Least S i) (hk : Least (restL S a) k) (hne : i ≠ a) : k = if a < i then i - 1 else i := by
  have hkl := hk.1
  rw [restL_len ha] at hkl
  refine Least.uniq hk ?_
  refine ⟨by rw [restL_len ha]; have := hi.1; split <;> omega, fun x hx hxn => ?_⟩
  rw [restL_len ha] at hx
  have hil := hi.1
  have e1 : shi a (if a < i then i - 1 else i) = i := by unfold shi; split <;> split <;> omega
  have hs : shi a x < S.length := by unfold shi; split <;> omega
  have hd : shi a x ≠ i := by
    intro e; apply hxn; unfold shi at e
    split at e <;> split <;> omega
  have h := hi.2 _ hs hd
  unfold Bet at h ⊢
  rw [restL_get S a x ha, restL_get S a _ ha, e1]
  rcases h with h | ⟨h1, h2⟩
  · exact .inl h
  · refine .inr ⟨h1, ?_⟩
    unfold shi at h2
    split at h2 <;> split <;> omega
/-- Who was seen. -/
def seenA (N : Nat) (T : List Nat) : Array Value := ((List.range N).map fun j => Value.bool (decide (j ∈ T))).toArray
theorem seenA_size (N : Nat) (T : List Nat) : (seenA N T).size = N := by simp [seenA]
theorem seenA_at {N j : Nat} (T : List Nat) (h : j < N) : (seenA N T)[j]? = some (.bool (decide (j ∈ T))) := by
  unfold seenA
  rw [List.getElem?_toArray, List.getElem?_map, List.getElem?_range h]; rfl
theorem seenA_zero (N : Nat) (f : Nat → Value) : fillA f (.bool false) N 0 = seenA N [] := by
  unfold fillA seenA
  simp
theorem seenA_set {N x : Nat} (T : List Nat) (h : x < N) : (seenA N T).setIfInBounds x (.bool true) = seenA N (T ++ [x]) := by
  apply Array.ext_getElem?
  intro j
  rw [Array.getElem?_setIfInBounds, seenA_size]
  by_cases hj : j < N
  · rw [seenA_at _ hj, seenA_at _ hj]
    by_cases e : x = j
    · subst e; rw [if_pos rfl, if_pos h]; simp
    · rw [if_neg e]
      have : (j ∈ T ++ [x]) ↔ j ∈ T := by simp; intro e2; exact absurd e2.symm e
      simp only [this]
  · rw [Array.getElem?_eq_none (by rw [seenA_size]; omega), Array.getElem?_eq_none (by rw [seenA_size]; omega)]
    by_cases e : x = j
    · omega
    · rw [if_neg e]
theorem rank_new {S : List Int} {r : List Nat} (h : IsRank S r) {k x : Nat} (hx : r[k]? = some x) : x ∉ r.take k := by
  intro hm
  obtain ⟨i, hi⟩ := List.getElem?_of_mem hm
  rw [List.getElem?_take] at hi
  by_cases c : i < k
  · rw [if_pos c] at hi
    exact (h.bet hi hx c).asymm (h.bet hi hx c)
  · rw [if_neg c] at hi; cases hi

/-! ### parts of slices -/
section
variable {w : World} {B sz n c : Nat} {A : Option Addr} {xs : List Value}
theorem reads_to (h : Reads w B sz A n xs) {k : Nat} (hk : k ≤ n) : Reads w B sz A k (xs.take (k * sz)) := by
  refine ⟨by rw [List.length_take, h.1]; exact Nat.min_eq_left (Nat.mul_le_mul_right sz hk), fun h0 => ?_⟩
  obtain ⟨b, o, rfl, hb, hc⟩ := h.2 (by omega)
  refine ⟨b, o, rfl, hb, fun j u hu => hc j u ?_⟩
  rw [List.getElem?_take] at hu
  split at hu
  · exact hu
  · cases hu
theorem reads_to_if (h : Reads w B sz A n xs) {k : Nat} (hk : k ≤ n) : Reads w B sz (if c = 0 then A else A.map fun x => x.add 0) k (xs.take (k * sz)) := by
  have e : (if c = 0 then A else A.map fun x => x.add 0) = A := by
    split
    · rfl
    · cases A with
      | none => rfl
      | some a => simp [Addr.add]
  rw [e]
  exact reads_to h hk
theorem reads_from (h : Reads w B sz A n xs) {k : Nat} (hk : k ≤ n) (hc : n ≤ c) : Reads w B sz (if c = k then A else A.map fun x => x.add (k * sz)) (n - k) (xs.drop (k * sz)) := by
  refine ⟨by rw [List.length_drop, h.1, Nat.mul_sub_right_distrib], fun h0 => ?_⟩
  obtain ⟨b, o, rfl, hb, hcc⟩ := h.2 (by omega)
  rw [if_neg (by omega)]
  refine ⟨b, o + k * sz, by simp [Addr.add], hb, fun j u hu => ?_⟩
  rw [List.getElem?_drop] at hu
  have := hcc _ u hu
  rwa [← Nat.add_assoc] at this
end
theorem own_lit0 {base : Nat} {e : TypeId} {sz : Nat} (w : World) (g : Nat) (hg : w.heap.size = g) (hb : base ≤ g) : (w.alloc (.cells #[] e)).ownsRow base e sz (.slice (some ⟨g, 0, none⟩) 0 0) 0 [] := by
  subst hg
  exact World.ownsRow_lit w #[] 0 hb (Nat.zero_le _) (by simp)
theorem info2_str : (Tryd.prog.info? 9).map (fun i => (i.zero, i.size, i.bytes)) = some (some (.string ⟨#[]⟩), 1, 16) := by kernel_rfl
set_option maxHeartbeats 8000000 in
set_option maxRecDepth 8000 in
theorem law_moves (key : ByteArray) (A : Option Addr) (c : Nat) (l : List ByteArray) (at_ : Int) (w : World) (hX : LaidH w) (hks : key.size ≤ 9223372036854775807) (hl : StrL w w.heap.size A l) (hsz : ∀ t ∈ l, t.size ≤ 9223372036854775807) (hln : l.length ≤ 9223372036854775807) (hcp : l.length ≤ c) (hc63 : c ≤ 9223372036854775807) :
    Calls Tryd.prog 8 #[.string key, .slice A l.length c, .int .i64 at_] w fun e w' => e = .returned (.bool true) ∧ Below w.heap.size w w' := by
  obtain ⟨i0, ih, iz0, iz1, iz2⟩ := info_parts2 info2_str
  have HX := Lib.hid hX
  have HL := Lib.hid hl
  have HZ := Lib.hid hsz
  have HBx := Lib.hid (Below.refl w.heap.size w)
  obtain ⟨N, hN⟩ : ∃ N, l.length = N := ⟨_, rfl⟩
  have HN := Lib.hid hN
  have HSH := Lib.hid (short_any A c l 64 w hl hsz hln)
  rw [hN] at HSH hln hcp ⊢
  clear hX hl hsz hN
  by_cases hk : 200 < key.size
  · have t1 : decide ((200 : Int) < (key.size : Int)) = true := decide_eq_true (by omega)
    clear hks
    go_enter Tryd.func8, Tryd.ntmps8
    go_wp2_with fail
    refine (awake_any _ (HX.out.below HBx.out)).mono ?_
    rintro e wz ⟨rfl, hb⟩
    have HBz := Lib.hid (HBx.out.trans (hb.mono HBx.out.size))
    clear hb
    go_wp2_with fail
    go_ret
    exact ⟨rfl, HBz.out⟩
  · have t1 : decide ((200 : Int) < (key.size : Int)) = false := decide_eq_false (by omega)
    have HK := Lib.hid (show key.size ≤ 200 by omega)
    clear hks hk
    cases hs : shB 64 l with
    | false =>
      have HS := Lib.hid hs
      clear hs
      go_enter Tryd.func8, Tryd.ntmps8
      go_wp2_with fail
      refine HSH.out.mono ?_
      rintro e wq ⟨rfl, rfl⟩
      rw [HS.out]
      go_wp2_with fail
      refine (awake_any _ (HX.out.below HBx.out)).mono ?_
      rintro e wz ⟨rfl, hb⟩
      have HBz := Lib.hid (HBx.out.trans (hb.mono HBx.out.size))
      clear hb
      go_wp2_with fail
      go_ret
      exact ⟨rfl, HBz.out⟩
    | true =>
      have HS := Lib.hid hs
      have HO := Lib.hid (sh_ok hs)
      clear hs
      have hNb : N ≤ 64 := by have h := HO.out.1; have := HN.out; omega
      by_cases hat : at_ < 0 ∨ (N : Int) ≤ at_ ∨ N < 2
      · go_enter Tryd.func8, Tryd.ntmps8
        go_wp2_with fail
        refine HSH.out.mono ?_
        rintro e wq ⟨rfl, rfl⟩
        rw [HS.out]
        by_cases a1 : at_ < 0
        · have d1 : decide (at_ < 0) = true := decide_eq_true a1
          clear hat
          go_wp2_with fail
          refine (awake_any _ (HX.out.below HBx.out)).mono ?_
          rintro e wz ⟨rfl, hb⟩
          have HBz := Lib.hid (HBx.out.trans (hb.mono HBx.out.size))
          clear hb
          go_wp2_with fail
          go_ret
          exact ⟨rfl, HBz.out⟩
        · have d1 : decide (at_ < 0) = false := decide_eq_false a1
          by_cases a2 : (N : Int) ≤ at_
          · have d2 : decide ((N : Int) ≤ at_) = true := decide_eq_true a2
            clear hat
            go_wp2_with fail
            refine (awake_any _ (HX.out.below HBx.out)).mono ?_
            rintro e wz ⟨rfl, hb⟩
            have HBz := Lib.hid (HBx.out.trans (hb.mono HBx.out.size))
            clear hb
            go_wp2_with fail
            go_ret
            exact ⟨rfl, HBz.out⟩
          · have d2 : decide ((N : Int) ≤ at_) = false := decide_eq_false a2
            have d3 : decide ((N : Int) < 2) = true := decide_eq_true (by omega)
            clear hat
            go_wp2_with fail
            refine (awake_any _ (HX.out.below HBx.out)).mono ?_
            rintro e wz ⟨rfl, hb⟩
            have HBz := Lib.hid (HBx.out.trans (hb.mono HBx.out.size))
            clear hb
            go_wp2_with fail
            go_ret
            exact ⟨rfl, HBz.out⟩
      · have d1 : decide (at_ < 0) = false := decide_eq_false (by omega)
        have d2 : decide ((N : Int) ≤ at_) = false := decide_eq_false (by omega)
        have d3 : decide ((N : Int) < 2) = false := decide_eq_false (by omega)
        obtain ⟨a, rfl⟩ : ∃ a : Nat, at_ = (a : Int) := ⟨at_.toNat, by omega⟩
        have haN : a < N := by omega
        have hN2 : 2 ≤ N := by omega
        have HNN := Lib.hid (And.intro haN hN2)
        have HLR := Lib.hid (show (restL l a).length = N - 1 by rw [restL_len (by rw [HN.out]; exact haN), HN.out])
        clear hat
        go_enter Tryd.func8, Tryd.ntmps8
        go_wp2_with fail
        refine HSH.out.mono ?_
        rintro e wq ⟨rfl, rfl⟩
        rw [HS.out]
        go_wp2_with fail
        have hr1 := Rendezvous_any key A c l w HL.out (by have := HN.out; omega) HO.out.2 HK.out HX.out
        rw [HN.out, rdC_ok (by have := HN.out; omega) (by have := HN.out; omega)] at hr1
        have HLE := Lib.hid (rdB_least (S := scS key l) (by rw [scS_len, HN.out]; omega) (by rw [scS_len, HN.out]; omega))
        obtain ⟨i, hi⟩ : ∃ i, rdB (scS key l) = i := ⟨_, rfl⟩
        rw [hi] at hr1 HLE
        refine hr1.mono ?_
        clear hr1 hi
        rintro e w1 ⟨rfl, hb⟩
        have HB1 := Lib.hid hb
        have hz1 : w.heap.size ≤ w1.heap.size := hb.size
        have HL1 := Lib.hid (HL.out.on hb)
        clear hb
        have hca : (a : Int) ≤ c := by omega
        have hca1 : ((a : Int) + 1) ≤ N := by omega
        have w1a : IntKind.i64.wrap ((a : Int) + 1) = (a : Int) + 1 := by rw [IntKind.wrap_i64]; omega
        have pa1 : (0 : Int) ≤ (a : Int) + 1 := by omega
        go_wp2_with fail
        have hown0 : ((w1.alloc (.cells #[] 9)).drew).ownsRow w1.heap.size 9 1 (.slice (some ⟨w1.heap.size, 0, none⟩) 0 0) 0 [] := own_below (own_lit0 w1 w1.heap.size rfl (Nat.le_refl _)) (Below.refl _ _).drew
        have hrd0 : Reads ((w1.alloc (.cells #[] 9)).drew) w1.heap.size 1 A N (svals l) := by have h := Reads.below HL1.out ((al_new w1 (.cells #[] 9)).drew); rw [HN.out] at h; exact h
        go_region_law (first | (refine step_append_any _ rfl (.tmp 46) (.tmp 49) 32 rfl w1.heap.size 9 i0 (.string ⟨#[]⟩) 1 16 Tryd.underlying32 ih iz0 iz1 iz2 rfl (by decide) _ 0 [] rfl hown0 _ _ a _ ((svals l).take (a * 1)) rfl (by first | exact reads_to hrd0 (by omega) | exact reads_to_if hrd0 (by omega)) (fun u hu => by have h := List.mem_of_mem_take hu; simp [svals] at h; obtain ⟨x, -, rfl⟩ := h; rfl) (by simp only [maxLen]; omega) (by omega) (by simp) ?_; intro v1 wn1 ho1 hg1 hi1; have hbn1 : Below w1.heap.size w1 wn1 := ((al_new w1 (.cells #[] 9)).drew).grown hg1 (by simp) (fun q hq => own_ge hown0 q hq); have hrd1 : Reads wn1 w1.heap.size 1 (if c = a + 1 then A else A.map (fun x : Addr => ({ block := x.block, off := x.off + (a + 1) } : Addr))) (N - (a + 1)) ((svals l).drop ((a + 1) * 1)) := by (have h := reads_from (c := c) (k := a + 1) (by have h := Reads.below HL1.out hbn1; rw [HN.out] at h; exact h) (by omega) (by omega); simpa [Addr.add] using h)) | (refine step_append_any _ rfl (.tmp 50) (.tmp 54) 32 rfl w1.heap.size 9 i0 (.string ⟨#[]⟩) 1 16 Tryd.underlying32 ih iz0 iz1 iz2 rfl (by decide) v1 _ _ rfl ho1 _ _ (N - (a + 1)) _ ((svals l).drop ((a + 1) * 1)) rfl hrd1 (fun u hu => by have h := List.mem_of_mem_drop hu; simp [svals] at h; obtain ⟨x, -, rfl⟩ := h; rfl) (by simp only [maxLen]; omega) (by omega) hbn1.size ?_; intro v2 wn2 ho2 hg2 hi2))
        obtain ⟨M, hM⟩ : ∃ M, M + 1 = N := ⟨N - 1, by omega⟩
        have hbn2 : Below w1.heap.size w1 wn2 := hbn1.grown hg2 hbn1.size (fun q hq => own_ge ho1 q hq)
        obtain ⟨A2, c2, rfl⟩ := own_slice ho2
        have hq2 := Reads.of_own ho2
        rw [show 0 + a + (N - (a + 1)) = M by omega] at hq2 ⊢
        have HLM := Lib.hid (show (restL l a).length = M by rw [HLR.out]; omega)
        have HL2 := Lib.hid (show StrL wn2 wn2.heap.size A2 (restL l a) from by
          show Reads wn2 wn2.heap.size 1 A2 (restL l a).length (svals (restL l a))
          rw [HLM.out]
          have e : svals (restL l a) = [] ++ (svals l).take (a * 1) ++ (svals l).drop ((a + 1) * 1) := by simp [svals, restL]
          rw [e]; exact hq2)
        have HB2 := Lib.hid (HB1.out.trans (hbn2.mono hz1))
        have HL2A := Lib.hid (HL1.out.on hbn2)
        clear hq2 ho2 hg2 hi2 hbn2 hbn1 hrd1 hg1 hi1 ho1 hrd0 hown0 hca hca1 w1a pa1 ih iz0 iz1 iz2
        generalize wn2 = w2 at *
        generalize (if c = a + 1 then A else A.map (fun x : Addr => ({ block := x.block, off := x.off + (a + 1) } : Addr))) = A9 at *
        have hz2 : w.heap.size ≤ w2.heap.size := HB2.out.size
        go_wp2_with fail
        have hr1 := Rendezvous_any key A2 c2 (restL l a) w2 HL2.out (by have := HLM.out; omega) (fun t ht => HO.out.2 t (restL_mem ht)) HK.out (HX.out.below HB2.out)
        rw [HLM.out, rdC_ok (by have := HLM.out; omega) (by have := HLM.out; omega)] at hr1
        have HLF := Lib.hid (rdB_least (S := scS key (restL l a)) (by rw [scS_len, HLM.out]; omega) (by rw [scS_len, HLM.out]; omega))
        obtain ⟨k, hk⟩ : ∃ k, rdB (scS key (restL l a)) = k := ⟨_, rfl⟩
        rw [hk] at hr1 HLF
        refine hr1.mono ?_
        clear hr1 hk
        rintro e w3 ⟨rfl, hb⟩
        have HB3 := Lib.hid (HB2.out.trans (hb.mono HB2.out.size))
        have HL3 := Lib.hid (HL2A.out.on hb)
        clear hb
        have HR1 := Lib.hid (Ranking_ok key A c l M (by rw [HN.out]; exact hM.symm) (by omega) w3 HL3.out HO.out.2 HK.out (HX.out.below HB3.out))
        rw [HN.out] at HR1
        go_wp2_with fail
        refine HR1.out.mono ?_
        rintro e w4 ⟨hb, r, G, hr, rfl, h2, h3, hc⟩
        have HRK := Lib.hid hr
        have HRL := Lib.hid (show r.length = N by rw [hr.len, scS_len, HN.out])
        have HB4 := Lib.hid (HB3.out.trans (hb.mono HB3.out.size))
        have HC := Lib.hid hc
        have q0 := hc 0 _ (hr.first HLE.out)
        have HF := Lib.hid (show a ≠ i → k = if a < i then i - 1 else i from fun hne => least_rest (by rw [scS_len, HN.out]; exact haN) HLE.out (by have h := HLF.out; rw [restL_scS] at h; exact h) (Ne.symm hne))
        have hiN : i < N := by have h := HLE.out.1; rw [scS_len, HN.out] at h; exact h
        have hkM : k < M := by have h := HLF.out.1; rw [scS_len, HLM.out] at h; exact h
        clear hb hr hc
        have e1 : decide ((i : Int) < 0) = false := decide_eq_false (by omega)
        have e2 : decide ((N : Int) ≤ (i : Int)) = false := decide_eq_false (by omega)
        have e2n : decide (N ≤ i) = false := decide_eq_false (by omega)
        have e3 : decide ((k : Int) < 0) = false := decide_eq_false (by omega)
        have e4 : decide ((M : Int) ≤ (k : Int)) = false := decide_eq_false (by omega)
        have e4n : decide (M ≤ k) = false := decide_eq_false (by omega)
        have e5 : ((N : Int) != (N : Int)) = false := by simp
        have e6 : ((i : Int) != (i : Int)) = false := by simp
        have p0 : (0 : Int) < N := by omega
        have hmk := run_mkB (fun _ => .bool false) N (by omega)
        rw [seenA_zero] at hmk
        go_wp2_with fail
        have hz4 : w.heap.size ≤ w4.heap.size := HB4.out.size
        clear e1 e2 e2n e3 e4 e4n e5 e6 hmk q0 h2
        go_loopw [15, 110] (fun _ vq wr => ∃ q : Nat, q ≤ N ∧ vq = .int .i64 q ∧ Blk wr w4.heap.size 4 (seenA N (r.take q)) ∧ Below w4.heap.size w4 wr) (fun _ vq _ => N - (intOf vq).toNat)
        case atStart => exact ⟨0, Nat.zero_le _, rfl, Blk.new w4 _ _, al_new w4 _⟩
        case round =>
          obtain ⟨q, hq, rfl, bs, hb⟩ := hrel
          have HB5 := Lib.hid hb
          by_cases hlt : q < N
          · obtain ⟨x, hx⟩ : ∃ x, r[q]? = some x := ⟨_, List.getElem?_eq_getElem (by rw [HRL.out]; exact hlt)⟩
            have hxN : x < N := by have h := HRK.out.lt (List.mem_of_getElem? hx); rw [scS_len, HN.out] at h; exact h
            have c0 : wr.cell? ⟨G, q, none⟩ = some (.int .i64 (x : Nat)) := (hb.cell (p := ⟨G, q, none⟩) h3).trans (HC.out q x hx)
            have c1 : wr.cell? ⟨w4.heap.size, x, none⟩ = some (.bool (decide (x ∈ r.take q))) := (bs.cell x).trans (seenA_at _ hxN)
            rw [decide_eq_false (rank_new HRK.out hx)] at c1
            have f1 := bs.frozen x
            have HS2 := Lib.hid (show r.take (q + 1) = r.take q ++ [x] by rw [List.take_add_one, hx]; rfl)
            have hqi : (q : Int) < N := by omega
            have hq0 : (0 : Int) ≤ q := by omega
            have hxi : (x : Int) < N := by omega
            have hx0 : (0 : Int) ≤ x := by omega
            have g1 : decide ((x : Int) < 0) = false := decide_eq_false (by omega)
            have g2 : decide ((N : Int) ≤ (x : Int)) = false := decide_eq_false (by omega)
            have g2n : decide (N ≤ x) = false := decide_eq_false (by omega)
            clear hb hx
            go_wp2_with fail
            have bs' := bs.set_ x (.bool true)
            rw [seenA_set _ hxN] at bs'
            go_roundw
            case rel => first | exact ⟨q + 1, by omega, by go_num, by rw [HS2.out]; exact bs', HB5.out.setCell (Nat.le_refl _) _⟩ | ((repeat apply Exists.intro); exact ⟨⟨q + 1, by omega, by go_num, by rw [HS2.out]; exact bs', HB5.out.setCell (Nat.le_refl _) _⟩, rfl⟩)
            case measure => (simp [intOf] <;> omega)
          · obtain rfl : q = N := by omega
            have HB6 := Lib.hid (HB4.out.trans (HB5.out.mono HB4.out.size))
            clear hb bs
            by_cases hia : i = a
            · subst hia
              have HBx := HB6
              go_wp2_with fail
              refine (awake_any _ (HX.out.below HBx.out)).mono ?_
              rintro e wz ⟨rfl, hb⟩
              have HBz := Lib.hid (HBx.out.trans (hb.mono HBx.out.size))
              clear hb
              go_wp2_with fail
              go_ret
              exact ⟨rfl, HBz.out⟩
            · have g1 : ((i : Int) == (a : Int)) = false := by simp; omega
              have hk2 := HF.out (fun e => hia e.symm)
              by_cases hai : a < i
              · have g2 : decide ((a : Int) < (i : Int)) = true := decide_eq_true (by omega)
                have g2n : decide (a < i) = true := decide_eq_true (by omega)
                rw [if_pos hai] at hk2
                have r1 : IntKind.i64.wrap ((i : Int) - 1) = (k : Int) := by rw [IntKind.wrap_i64]; omega
                have HBx := HB6
                clear hk2
                go_wp2_with fail
                refine (awake_any _ (HX.out.below HBx.out)).mono ?_
                rintro e wz ⟨rfl, hb⟩
                have HBz := Lib.hid (HBx.out.trans (hb.mono HBx.out.size))
                clear hb
                go_wp2_with fail
                go_ret
                exact ⟨rfl, HBz.out⟩
              · have g2 : decide ((a : Int) < (i : Int)) = false := decide_eq_false (by omega)
                have g2n : decide (a < i) = false := decide_eq_false (by omega)
                rw [if_neg hai] at hk2
                subst hk2
                have HBx := HB6
                go_wp2_with fail
                refine (awake_any _ (HX.out.below HBx.out)).mono ?_
                rintro e wz ⟨rfl, hb⟩
                have HBz := Lib.hid (HBx.out.trans (hb.mono HBx.out.size))
                clear hb
                go_wp2_with fail
                go_ret
                exact ⟨rfl, HBz.out⟩
end Go.Proofs.YtjjmdgiaohmjkaaDoor
