/- hash.ranked, Rendezvous, Ranking. -/
import Derived.Test.YtjjmdgiaohmjkaaDoorSF
namespace Go.Proofs.YtjjmdgiaohmjkaaDoor
open Go.RowKit
open Go.Sort (grow Holds PermIn putRow putCells mapBlock size_grow cell?_grow)

theorem blk_lt {w : World} {p : Addr} {v : Value} (h : w.cell? p = some v) : p.block < w.heap.size := by
  unfold World.cell? at h
  rcases Nat.lt_or_ge p.block w.heap.size with hlt | hge
  · exact hlt
  · rw [Array.getElem?_eq_none hge] at h; cases h
theorem held1_step {w0 w1 w2 : World} {p : Addr} {v : Value} (h : w1.cell? p = some v ∧ Below w0.heap.size w0 w1) (hb : Below w1.heap.size w1 w2) : w2.cell? p = some v ∧ Below w0.heap.size w0 w2 :=
  ⟨(hb.cell (blk_lt h.1)).trans h.1, h.2.trans (hb.mono h.2.size)⟩
theorem held1_set {w0 w1 : World} {p q : Addr} {v u : Value} (h : w1.cell? p = some v ∧ Below w0.heap.size w0 w1) (hq : w0.heap.size ≤ q.block) (hne : q.block ≠ p.block) : (w1.setCell q u).cell? p = some v ∧ Below w0.heap.size w0 (w1.setCell q u) :=
  ⟨(World.cell?_setCell_other _ _ _ _ (by intro e; exact hne (by rw [e]))).trans h.1, h.2.setCell hq u⟩
theorem al_new (w : World) (o : Obj) : Below w.heap.size w (w.alloc o) := (Below.refl _ _).alloc (Nat.le_refl _) o
theorem Chain2d (a b : ByteArray) (w : World) (ha : a.size ≤ 200) (hb : b.size ≤ 200) (hX : LaidH w) :
    Calls Tryd.prog 20 #[.slice (some ⟨w.heap.size, 0, none⟩) 2 2] (w.alloc (.cells #[.string a, .string b] 9)).drew fun e w' => e = .returned (.int .u64 (fnv (chT [a, b]))) ∧ Below (w.alloc (.cells #[.string a, .string b] 9)).drew.heap.size (w.alloc (.cells #[.string a, .string b] 9)).drew w' :=
  Chain_any _ 2 [a, b] _ (strs_new w [a, b] 9) ⟨by simp, fun t ht => by simp at ht; rcases ht with rfl | rfl <;> omega⟩ (hX.below (al_new w _).drew)
/-- What ranked leaves. -/
def RkPost (w : World) (S : List Int) (N : Nat) (e : Ending) (w' : World) : Prop := Below w.heap.size w w' ∧ ∃ r G, IsRank S r ∧ e = .returned (.slice (some ⟨G, 0, none⟩) N N) ∧ w.heap.size ≤ G ∧ G < w'.heap.size ∧ ∀ j x, r[j]? = some x → w'.cell? ⟨G, j, none⟩ = some (.int .i64 (x : Nat))
theorem scS_at {key : ByteArray} {l : List ByteArray} {k : Nat} {t : ByteArray} (h : l[k]? = some t) : scA (scS key l) k = .int .u64 (scI key t) := by
  unfold scA scS
  rw [List.getD_eq_getElem?_getD, List.getElem?_map, h]; rfl
theorem enters_rk (args : Array Value) (w : World) : Sem.run Tryd.prog (callFunc 50 args) w = .ok (.enter 50 args) w := enters_of Tryd.func50 (by kernel_rfl) rfl args w
theorem scA_at {S : List Int} {n x : Nat} (h : x < n) : (fillA (scA S) (.int .u64 0) n n)[x]? = some (.int .u64 (S.getD x 0)) := by
  rw [fillA_at h, if_pos h]; rfl
theorem cmp_lays (S : List Int) (n gs gb go : Nat) (w : World) (b1 : Blk w gs 22 (fillA (scA S) (.int .u64 0) (n + 1) (n + 1))) (b2 : Blk w gb 74 #[.slice (some ⟨gs, 0, none⟩) (n + 1) (n + 1)]) (h1 : gs < go) (h2 : gb < go) (h3 : go ≤ w.heap.size) :
    CmpLays1 Tryd.prog 50 #[.pointer (some ⟨gb, 0, none⟩)] (encF n) (cfF S n) go 0 (rowF n).size w := by
  intro m os dk hs x y
  have hb : Below go w (sortWorld (encF n) w go 0 m dk os) := below_SW ⟨m, os, rfl⟩ (Nat.le_refl _) h3
  have c0 : (sortWorld (encF n) w go 0 m dk os).cell? ⟨gb, 0, none⟩ = some (.slice (some ⟨gs, 0, none⟩) (n + 1) (n + 1)) := (hb.cell (p := ⟨gb, 0, none⟩) h2).trans (b2.cell 0)
  have c1 : ∀ z : Fin (n + 1), (sortWorld (encF n) w go 0 m dk os).cell? ⟨gs, (z : Nat), none⟩ = some (.int .u64 (S.getD z 0)) := fun z => (hb.cell (p := ⟨gs, (z : Nat), none⟩) h1).trans ((b1.cell z).trans (scA_at z.2))
  exact (cmp_walk x y (n + 1) (n + 1) x.2 y.2 _ _ gb gs _ c0 (c1 x) (c1 y)).mono fun _ _ ⟨he, q, hq⟩ => ⟨he, q, #[], by rw [hq, Go.Sort.grow_empty]⟩
theorem rank_sort (S : List Int) (n : Nat) (hS : S.length = n + 1) (hn : n ≤ 63) (gs gb go cap : Nat) (w : World) (b1 : Blk w gs 22 (fillA (scA S) (.int .u64 0) (n + 1) (n + 1))) (b2 : Blk w gb 74 #[.slice (some ⟨gs, 0, none⟩) (n + 1) (n + 1)])
    (b3 : Blk w go 3 (fillA ixA (.int .i64 0) (n + 1) (n + 1))) (h1 : gs < go) (h2 : gb < go) :
    Calls Tryd.prog 49 #[.slice (some ⟨go, 0, none⟩) (n + 1) cap, .func (.func 50) #[] #[.pointer (some ⟨gb, 0, none⟩)]] w fun e w' => e = .returned (.tuple #[]) ∧ Below go w w' ∧ ∃ r, IsRank S r ∧ ∀ j x, r[j]? = some x → w'.cell? ⟨go, j, none⟩ = some (.int .i64 (x : Nat)) := by
  have hH : Holds (encF n) w go 0 (rowF n) := fun j hj => by
    rw [rowF_size] at hj
    refine ⟨?_, b3.frozen _⟩
    rw [Nat.zero_add, b3.cell, fillA_at hj, if_pos hj, rowF_at n j hj]; rfl
  have h := sortStable_s (cap := cap) (cf := cfF S n) (R := betF S n) enters_rk (cmp_lays S n gs gb go w b1 b2 h1 h2 (Nat.le_of_lt b3.lt)) ⟨one_encF n, hH, b3.lt⟩ (betF_before S n) rfl (SW.start hH) (by rw [rowF_size]; omega) (rowF_crs S n)
  rw [rowF_size] at h
  refine h.mono ?_
  rintro e w' ⟨rfl, d', hS', hp, hsr⟩
  obtain ⟨hr, hz⟩ := rank_of hS hp hsr
  refine ⟨rfl, below_SW hS' (Nat.le_refl _) (Nat.le_of_lt b3.lt), _, hr, fun j x hx => ?_⟩
  have hh := hS'.holds b3.lt hH (by rw [hz, rowF_size])
  rw [List.getElem?_map] at hx
  by_cases hj : j < d'.size
  · rw [Array.getElem?_toList, Array.getElem?_eq_getElem hj] at hx
    have := (hh j hj).1
    rw [Nat.zero_add, getElem!_pos d' j hj] at this
    rw [this]
    simp at hx
    rw [← hx]; rfl
  · rw [List.getElem?_eq_none (by simpa using hj)] at hx; cases hx
theorem scS_len (key : ByteArray) (l : List ByteArray) : (scS key l).length = l.length := by simp [scS]
set_option maxHeartbeats 4000000 in
theorem ranked_any (key : ByteArray) (A : Option Addr) (c : Nat) (l : List ByteArray) (n : Nat) (hn : l.length = n + 1) (hn6 : n ≤ 63) (w : World) (hl : StrL w w.heap.size A l) (hsz : ∀ t ∈ l, t.size ≤ 200) (hk : key.size ≤ 200) (hX : LaidH w) :
    Calls Tryd.prog 37 #[.string key, .slice A l.length c] w (RkPost w (scS key l) l.length) := by
  obtain ⟨N, hN⟩ : ∃ q, q = l.length := ⟨_, rfl⟩
  have hN2 : N = n + 1 := by omega
  rw [← hN]
  have HN := Lib.hid hN
  have HL := Lib.hid hl
  have HX := Lib.hid hX
  have HS := Lib.hid hsz
  have HK := Lib.hid hk
  obtain ⟨S, hS⟩ : ∃ q, q = scS key l := ⟨_, rfl⟩
  rw [← hS]
  have HSS := Lib.hid hS
  have hmk1 := run_mkU (scA S) N (by omega)
  have hmk2 := run_mkI ixA N (by omega)
  have HN2 := Lib.hid (And.intro hN2 hn6)
  clear hN hl hX hsz hS hn hk hN2 hn6
  go_enter Tryd.func37, Tryd.ntmps37
  go_wp2_with fail
  go_loopw [17] (fun i wr => ∃ k : Nat, k ≤ N ∧ i = .int .i64 k ∧ Blk wr w.heap.size 22 (fillA (scA S) (.int .u64 0) N k) ∧ Blk wr (w.heap.size + 1) 74 #[.slice (some ⟨w.heap.size, 0, none⟩) N N] ∧ Blk wr (w.heap.size + 1 + 1) 3 (fillA ixA (.int .i64 0) N k) ∧ Below w.heap.size w wr) (fun i _ => N - (intOf i).toNat)
  case atStart => exact ⟨0, Nat.zero_le _, rfl, ((Blk.new w _ _).alloc _).alloc _, (Blk.new1 w _ _ _).alloc _, Blk.new2 w _ _ _ _, (((Below.refl _ _).alloc (Nat.le_refl _) _).alloc (by simp) _).alloc (by simp; omega) _⟩
  case round =>
    obtain ⟨k, hk, rfl, b1, b2, b3, hb⟩ := hrel
    have HB := Lib.hid hb
    have hzr : w.heap.size ≤ wr.heap.size := hb.size
    clear hb
    by_cases hlt : k < N
    · obtain ⟨t, ht⟩ : ∃ t, l[k]? = some t := ⟨_, List.getElem?_eq_getElem (by rw [← HN.out]; exact hlt)⟩
      have HE := Lib.hid (show Value.int .u64 (fnv (chT [t, key])) = scA S k by rw [HSS.out]; exact (scS_at ht).symm)
      have hts := HS.out t (List.mem_of_getElem? ht)
      obtain ⟨b, o, rfl, -, c0⟩ := (HL.out.keep HB.out).cell ht
      have hki : (k : Int) < N := by omega
      have hk0 : (0 : Int) ≤ k := by omega
      have e1 : (k : Int).toNat = k := by omega
      have q2 := b2.cell 0
      have f1 := b1.frozen k
      have q1 : wr.cell? ⟨w.heap.size, k, none⟩ = some (if k < k then scA S k else .int .u64 0) := (b1.cell k).trans (fillA_at hlt)
      rw [if_neg (Nat.lt_irrefl k)] at q1
      clear ht
      go_wp2_with fail
      go_region_held3 (fun w' => w'.cell? ⟨w.heap.size + 1, 0, none⟩ = some (.slice (some ⟨w.heap.size, 0, none⟩) N N) ∧ Below w.heap.size w w') (first | assumption | exact ⟨q2, HB.out.drew⟩ | exact held1_step (by assumption) (al_new _ _) | exact held1_set (by assumption) (Nat.le_refl _) (by simp)) (first | (go_at_call 20; ((with_reducible refine (Chain2d t key _ hts HK.out (HX.out.below HB.out)).mono ?_); rintro e w1 ⟨rfl, hb1⟩; have H1 := held1_step (by assumption) hb1; have bw : Blk w1 w.heap.size 22 (fillA (scA S) (.int .u64 0) N k) := ((b1.alloc (.cells #[.string t, .string key] 9)).drew).on hb1; have q1w : w1.cell? ⟨w.heap.size, k, none⟩ = some (if k < k then scA S k else .int .u64 0) := (bw.cell k).trans (fillA_at hlt); rw [if_neg (Nat.lt_irrefl k)] at q1w; have f1w := bw.frozen k)))
      have FIN : Blk (w1.setCell ⟨w.heap.size, k, none⟩ (.int .u64 (fnv (chT [t, key])))) w.heap.size 22 (fillA (scA S) (.int .u64 0) N (k + 1)) ∧ Blk (w1.setCell ⟨w.heap.size, k, none⟩ (.int .u64 (fnv (chT [t, key])))) (w.heap.size + 1) 74 #[.slice (some ⟨w.heap.size, 0, none⟩) N N] ∧ Blk (w1.setCell ⟨w.heap.size, k, none⟩ (.int .u64 (fnv (chT [t, key])))) (w.heap.size + 1 + 1) 3 (fillA ixA (.int .i64 0) N k) ∧ Below w.heap.size w (w1.setCell ⟨w.heap.size, k, none⟩ (.int .u64 (fnv (chT [t, key])))) := by
        refine ⟨?_, (((b2.alloc (.cells #[.string t, .string key] 9)).drew).on hb1).far (by simp) _, (((b3.alloc (.cells #[.string t, .string key] 9)).drew).on hb1).far (by simp; omega) _, H1.2.setCell (Nat.le_refl _) _⟩
        have := bw.set_ k (.int .u64 (fnv (chT [t, key])))
        rw [HE.out, fillA_set hlt] at this
        rw [HE.out]
        exact this
      have hkb : k < 64 := by have := HN2.out; omega
      rename_i hHeld
      clear hHeld b1 b2 b3 HB q1 q2 f1 hb1 H1 bw q1w f1w
      generalize w1.setCell ⟨w.heap.size, k, none⟩ (.int .u64 (fnv (chT [t, key]))) = w2 at FIN ⊢
      obtain ⟨b1, b2, b3, hb2⟩ := FIN
      have HB2 := Lib.hid hb2
      have hz2 : w.heap.size ≤ w2.heap.size := hb2.size
      clear hb2
      have q3 : w2.cell? ⟨w.heap.size + 1 + 1, k, none⟩ = some (if k < k then ixA k else .int .i64 0) := (b3.cell k).trans (fillA_at hlt)
      rw [if_neg (Nat.lt_irrefl k)] at q3
      have f3 := b3.frozen k
      go_wp2_with fail
      have b3' := b3.set_ k (ixA k)
      rw [fillA_set hlt] at b3'
      go_roundw
      case rel => exact ⟨k + 1, by omega, by go_num, b1.far (by simp; omega) _, b2.far (by simp) _, b3', HB2.out.setCell (by simp; omega) _⟩
      case measure => simp [intOf]; omega
    · obtain rfl : k = N := by omega
      obtain ⟨rfl, hn6⟩ := HN2.out
      have HC := Lib.hid (rank_sort S n (by rw [HSS.out, scS_len, ← HN.out]) hn6 w.heap.size (w.heap.size + 1) (w.heap.size + 1 + 1) (n + 1) wr b1 b2 b3 (by omega) (by omega))
      have hgl := b3.lt
      clear b1 b2 b3 hmk1 hmk2 HN2 hn6
      go_wp2_with fail
      refine HC.out.mono ?_
      rintro e w2 ⟨rfl, hb, r, hr, hc⟩
      have HR := Lib.hid (And.intro hr hc)
      have HB2 := Lib.hid (HB.out.trans (hb.mono (by omega)))
      have hz := hb.size
      clear hb hr hc
      go_wp2_with fail
      go_ret
      exact ⟨HB2.out, r, _, HR.out.1, rfl, by omega, by omega, HR.out.2⟩
end Go.Proofs.YtjjmdgiaohmjkaaDoor
