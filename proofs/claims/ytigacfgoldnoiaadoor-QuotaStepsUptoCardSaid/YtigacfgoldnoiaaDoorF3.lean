/- QuotaEarly: the walk. -/
import Derived.Test.YtigacfgoldnoiaaDoorF2
import Derived.Test.YtigacfgoldnoiaaDoorE2
namespace Go.Proofs.YtigacfgoldnoiaaDoor
open Go.RowKit
set_option linter.unusedVariables false
set_option linter.unusedSimpArgs false
attribute [local go_sem] World.cell?_alloc_old World.frozen?_alloc_old

/-- A slice of flags that came in. -/
def Rdb (w : World) (v : Value) (xs : List Bool) : Prop :=
  ∃ A cap, v = .slice A xs.length cap ∧ xs.length ≤ 9223372036854775807 ∧ (0 < xs.length → ∃ b off, A = some ⟨b, off, none⟩ ∧ b < w.heap.size ∧ ∀ (i : Nat) (x : Bool), xs[i]? = some x → w.cell? ⟨b, off + i, none⟩ = some (.bool x))

def pv : Option (Nat × Pn) → Value
  | none => .pointer none
  | some (bp, _) => .pointer (some ⟨bp, 0, none⟩)
def pvs (ps : List (Option (Nat × Pn))) : Array Value := (ps.map pv).toArray
def bvs (tk : List Bool) : Array Value := (tk.map Value.bool).toArray
theorem pvs_at {ps : List (Option (Nat × Pn))} {k : Nat} {v : Option (Nat × Pn)} (h : ps[k]? = some v) : (pvs ps)[k]? = some (pv v) := by simp [pvs, h]
theorem bvs_at {tk : List Bool} {k : Nat} (h : k < tk.length) : (bvs tk)[k]? = some (.bool (tk.getD k false)) := by simp [bvs, List.getD, List.getElem?_eq_getElem h]
theorem pvs_set (ps : List (Option (Nat × Pn))) (k : Nat) (v : Option (Nat × Pn)) : (pvs ps).setIfInBounds k (pv v) = pvs (ps.set k v) := by
  apply Array.ext'
  simp [pvs, List.map_set]
theorem bvs_set (tk : List Bool) (k : Nat) (v : Bool) : (bvs tk).setIfInBounds k (.bool v) = bvs (tk.set k v) := by
  apply Array.ext'
  simp [bvs, List.map_set]
theorem pvs_size (ps : List (Option (Nat × Pn))) : (pvs ps).size = ps.length := by simp [pvs]

theorem info32 : (Tryd.prog.info? 32).map (fun i => (i.zero, i.size, i.bytes)) = some (some (.pointer none), 1, 8) := by kernel_rfl
theorem info4 : (Tryd.prog.info? 4).map (fun i => (i.zero, i.size, i.bytes)) = some (some (.bool false), 1, 1) := by kernel_rfl
theorem made_pvs (n : Nat) : madeCells (Value.cells (.pointer none)) (n * 1) = pvs (List.replicate n none) := by
  have h := toList_madeCells_one (.pointer none) n
  have e : Value.cells (.pointer none) = #[.pointer none] := rfl
  rw [e, Nat.mul_one]
  apply Array.toList_inj.1
  rw [h]
  simp [pvs, pv]
theorem made_bvs (n : Nat) : madeCells (Value.cells (.bool false)) (n * 1) = bvs (List.replicate n false) := by
  have h := toList_madeCells_one (.bool false) n
  have e : Value.cells (.bool false) = #[.bool false] := rfl
  rw [e, Nat.mul_one]
  apply Array.toList_inj.1
  rw [h]
  simp [bvs]
theorem make_ptrs (n : Nat) (hn : n ≤ 65) (w : World) : (Instr.makeSlice 31 (.int .i64 n) (.int .i64 n)).run Tryd.prog w = .ok (.slice (some ⟨w.heap.size, 0, none⟩) n n) (w.alloc (.cells (pvs (List.replicate n none)) 32)) := by
  obtain ⟨i0, hi, hz0, hz1, hz2⟩ := info_parts info32
  have h := run_make (P := Tryd.prog) w 31 32 i0 _ Tryd.underlying31 hi hz0 .i64 .i64 n n (by omega) (Int.le_refl _) (by rw [hz2]; omega) (by omega)
  rw [h, hz1]
  simp only [Int.toNat_natCast, made_pvs]
theorem make_bools (n : Nat) (hn : n ≤ 65) (w : World) : (Instr.makeSlice 63 (.int .i64 n) (.int .i64 n)).run Tryd.prog w = .ok (.slice (some ⟨w.heap.size, 0, none⟩) n n) (w.alloc (.cells (bvs (List.replicate n false)) 4)) := by
  obtain ⟨i0, hi, hz0, hz1, hz2⟩ := info_parts info4
  have h := run_make (P := Tryd.prog) w 63 4 i0 _ Tryd.underlying63 hi hz0 .i64 .i64 n n (by omega) (Int.le_refl _) (by rw [hz2]; omega) (by omega)
  rw [h, hz1]
  simp only [Int.toNat_natCast, made_bvs]

theorem Early.begin (batch n limit : Nat) : Early batch n limit (limit :: List.replicate n 0) (List.replicate n none) (List.replicate n false) 0 := by
  have h1 : ((List.replicate n (none : Option (Nat × Pn))).map oh).sum = 0 := by simp [oh]
  refine ⟨by simp, by simp, by simp, by rw [h1]; simp, fun k hk => ?_, fun k bp p h => ?_⟩
  · have : (List.replicate n (none : Option (Nat × Pn))).getD k none = none := by simp [List.getD, List.getElem?_replicate]; split <;> rfl
    rw [this]
    simp [oh, List.getD, List.getElem?_replicate]
    split <;> simp
  · rw [List.getElem?_replicate] at h
    split at h <;> cases h
theorem Fam.begin (w : World) (base bq n : Nat) : Fam w base bq (List.replicate n none) :=
  ⟨fun k bp p h => (by rw [List.getElem?_replicate] at h; split at h <;> cases h), fun i j bp p q h => by rw [List.getElem?_replicate] at h; split at h <;> cases h⟩

theorem pvs_same {ps : List (Option (Nat × Pn))} {k bp : Nat} {p : Pn} (h : ps[k]? = some (some (bp, p))) (p' : Pn) : pvs ps = pvs (ps.set k (some (bp, p'))) := by
  apply Array.ext'
  simp only [pvs]
  apply List.ext_getElem?
  intro j
  simp only [List.getElem?_map, List.getElem?_set]
  by_cases e : k = j
  · subst e
    rw [if_pos rfl, if_pos (List.getElem?_eq_some_iff.1 h).1, h]
    rfl
  · rw [if_neg e]
theorem Early.hand {batch n limit : Nat} {l : List Nat} {ps : List (Option (Nat × Pn))} {tk : List Bool} {T k bp : Nat} {p : Pn} (h : Early batch n limit l ps tk T) (hk : ps[k]? = some (some (bp, p))) : l.sum + p.nx.hand ≤ limit := by
  have hkl : k < ps.length := (List.getElem?_eq_some_iff.1 hk).1
  have h1 := hands_set ps k none hkl
  rw [getD_of_get hk] at h1
  simp only [oh] at h1
  have := h.sum
  omega

theorem bare_of_ended {nx : Nx} (h : nx.ended = true) : nx.bare = true := by cases nx <;> first | rfl | cases h
theorem Fam.finish {w : World} {base bq nb k bp : Nat} {p' : Pn} {ps : List (Option (Nat × Pn))} (h : Fam w base bq (ps.set k (some (bp, p')))) (he : p'.nx.ended = true) (hN : Has w nb 32 (pvs ps)) (hk : k < ps.length) (o : Obj) (v : Value) :
    Fam ((w.setCell ⟨nb, k, none⟩ v).alloc o) base bq (ps.set k none) := by
  have h2 := h.write (bx := nb) (k := k) (t := 32) (cs := pvs ps) ((Moves.refl [nb] w).setOld (p := ⟨nb, k, none⟩) (by simp) v) hN (.inl rfl) (by rw [pvs_size]; simp)
    (fun b p hp => by
      rw [List.getElem?_set_self hk] at hp
      simp only [Option.some.injEq, Prod.mk.injEq] at hp
      obtain ⟨rfl, rfl⟩ := hp
      exact bare_of_ended he) (by simpa using hk)
  have h3 := (h2.drop (k := k)).still ((Moves.refl [] _).alloc o)
  rwa [List.set_set] at h3
theorem Fam.begun {a w : World} {base bq nb tb k bp : Nat} {p' : Pn} {cs : Array Value} {ps : List (Option (Nat × Pn))} (h : Fam a base bq ps) (hk : ps[k]? = some none) (hm : Moves [] a w) (hb : a.heap.size ≤ bp) (hbase : base ≤ bp) (hp : PendAt w bp bq p') (hbare : p'.nx.bare = true)
    (hN : Has w nb 32 (pvs ps)) (hT : Has w tb 4 cs) (hne : tb ≠ nb) (v u : Value) : Fam ((w.setCell ⟨nb, k, none⟩ v).setCell ⟨tb, k, none⟩ u) base bq (ps.set k (some (bp, p'))) := by
  have hkl : k < ps.length := (List.getElem?_eq_some_iff.1 hk).1
  have h1 := h.add hk hm hb hbase hp
  have h2 := h1.write (bx := nb) (k := k) (t := 32) (cs := pvs ps) ((Moves.refl [nb] w).setOld (p := ⟨nb, k, none⟩) (by simp) v) hN (.inl rfl) (by rw [pvs_size]; simp)
    (fun b p hp => by
      rw [List.getElem?_set_self hkl] at hp
      simp only [Option.some.injEq, Prod.mk.injEq] at hp
      obtain ⟨rfl, rfl⟩ := hp
      exact hbare) (by simpa using hkl)
  exact h2.other ((Moves.refl [tb] _).setOld (p := ⟨tb, k, none⟩) (by simp) u) (hT.far (p := ⟨nb, k, none⟩) hne v) (by decide)
theorem Quo.off {w : World} {bq bc bw batch n nb k : Nat} {l : List Nat} {t : TypeId} {cs : Array Value} (h : Quo w bq bc bw batch n l) (hN : Has w nb t cs) (ht : t ≠ 74 ∧ t ≠ 87 ∧ t ≠ 99) (h0 : nb ≠ 0) (v : Value) : Quo (w.setCell ⟨nb, k, none⟩ v) bq bc bw batch n l :=
  h.far ⟨hN.ne_type h.q ht.1, hN.ne_type h.c ht.2.1, hN.ne_type h.m ht.2.2, h0⟩ v

set_option maxHeartbeats 2000000 in
set_option maxRecDepth 100000 in
theorem early_bad (limit batch workers : Int) (v u : Value) (w : World) (hu : Uses w) (hz : 0 < w.heap.size) (h : fitsB limit batch workers = false) :
    Calls Tryd.prog 7 #[.int .i64 limit, .int .i64 batch, .int .i64 workers, v, u] w fun e w' => e = .returned (.bool true) ∧ Moves [] w w' := by
  have hbg := Lib.hid (fun W hu hz => begins_any W hu hz)
  have hnw := Lib.hid (fun W => new_bad limit batch workers W h)
  clear h
  go_enter Tryd.func7, Tryd.ntmps7
  go_wp2_with (first | (go_at_call 13; go_must (refine (hbg.out _ hu hz).mono ?_; rintro e w1 ⟨rfl, hm1⟩)) | (go_at_call 11; go_must (refine (hnw.out _).mono ?_; rintro e w2 ⟨rfl, hm2⟩)))
  go_ret
  exact ⟨rfl, hm1.trans hm2 (by simp)⟩

set_option maxHeartbeats 4000000 in
set_option maxRecDepth 100000 in
theorem early_good (limit batch n : Nat) (v u : Value) (ks : List Bool) (xs : List Int) (w : World) (hv : Rdb w v ks) (hu' : Rdi w u xs) (hu : Uses w) (hz : 0 < w.heap.size) (hf : fitsB limit batch n = true) (hf1 : limit ≤ 1099511627776) (hf2 : batch ≤ 1048576) (hf3 : n ≤ 64) :
    Calls Tryd.prog 7 #[.int .i64 limit, .int .i64 batch, .int .i64 n, v, u] w fun e w' => e = .returned (.bool true) ∧ Moves [] w w' := by
  have hbg := Lib.hid (fun W hu hz => begins_any W hu hz)
  have hnw := Lib.hid (fun W hu hz => new_good limit batch n W hf hf1 hf2 hf3 hu hz)
  have hb1 : 1 ≤ batch := by have := hf; simp only [fitsB, decide_eq_true_eq] at this; omega
  have hn1 : 1 ≤ n := by have := hf; simp only [fitsB, decide_eq_true_eq] at this; omega
  clear hf
  obtain ⟨KA, kcap, rfl, hklen, hks⟩ := hv
  obtain ⟨A, cap, rfl, hlen, hxs⟩ := hu'
  obtain ⟨len, hlenE⟩ : ∃ len, len = xs.length := ⟨_, rfl⟩
  obtain ⟨klen, hklenE⟩ : ∃ len, len = ks.length := ⟨_, rfl⟩
  rw [← hlenE] at hlen hxs ⊢
  rw [← hklenE] at hklen hks ⊢
  have HLEN := Lib.hid hlenE
  have HKLEN := Lib.hid hklenE
  have HKS := Lib.hid hks
  have HXS := Lib.hid hxs
  clear hlenE hklenE hks hxs
  have hmp := make_ptrs n (by omega)
  have hmb := make_bools n (by omega)
  go_enter Tryd.func7, Tryd.ntmps7
  go_wp2_with (first | (go_at_call 13; go_must (refine (hbg.out _ hu hz).mono ?_; rintro e w1 ⟨rfl, hm1⟩)) | (go_at_call 11; go_must (refine (hnw.out _ (hu.moves hm1 hz (by simp)) (Nat.lt_of_lt_of_le hz hm1.size)).mono ?_; rintro e w2 ⟨bq, bc, bw, rfl, gq, gc, gw, hQ, hm2⟩)))
  have hm02 : Moves [] w w2 := hm1.trans hm2 (by simp)
  have gbw : w.heap.size ≤ bw := by have := hm1.size; omega
  have hs02 := hm02.size
  go_loopw [15, 16, 17] (fun a b c wr => ∃ (nx T i : Nat) (l : List Nat) (ps : List (Option (Nat × Pn))) (tk : List Bool), i ≤ len ∧ nx ≤ i ∧ a = .int .i64 (nx : Nat) ∧ b = .int .i64 (T : Nat) ∧ c = .int .i64 (i : Nat) ∧ Early batch n limit l ps tk T ∧
      Quo wr bq bc bw batch n l ∧ Has wr w2.heap.size 32 (pvs ps) ∧ Has wr (w2.heap.size + 1) 4 (bvs tk) ∧ Fam wr w.heap.size bq ps ∧ Moves [] w wr) (fun _ _ c _ => len - (intOf c).toNat)
  case atStart =>
    refine ⟨0, 0, 0, _, _, _, Nat.zero_le _, Nat.le_refl _, rfl, rfl, rfl, Early.begin batch n limit, ?_, ?_, ?_, Fam.begin _ _ _ _, ?_⟩
    · exact (hQ.alloc _).alloc _
    · exact (Has.new' rfl).alloc _
    · exact Has.new' (by simp)
    · exact (hm02.alloc _).alloc _
  case round =>
    obtain ⟨nx, T, i, l, ps, tk, hi, hnx, rfl, rfl, rfl, hE, hQr, hN, hT, hF, hmr⟩ := hrel
    have hEs := hE.sum
    by_cases hlt : i < len
    · obtain ⟨b, off, rfl, hbl, hcells⟩ := HXS.out (by omega)
      obtain ⟨x, hx⟩ : ∃ x, xs[i]? = some x := ⟨_, List.getElem?_eq_getElem (by have := HLEN.out; omega)⟩
      have cx0 := hcells i x hx
      have cx : wr.cell? ⟨b, off + i, none⟩ = some (.int .i64 x) := by
        simp only [World.cell?] at cx0 ⊢
        rw [hmr.block b hbl (by simp)]
        exact cx0
      clear hcells cx0 hx
      have hi' : (i : Int) < (len : Int) := by omega
      by_cases hx0 : x < 0
      · go_wp2_with fail
        go_roundw
        case rel => exact ⟨nx, T, i + 1, l, ps, tk, by omega, by omega, rfl, rfl, by go_num, hE, hQr, hN, hT, hF, hmr⟩
        case measure => simp [intOf]; omega
      · by_cases hxn : (n : Int) ≤ x
        · go_wp2_with fail
          go_roundw
          case rel => exact ⟨nx, T, i + 1, l, ps, tk, by omega, by omega, rfl, rfl, by go_num, hE, hQr, hN, hT, hF, hmr⟩
          case measure => simp [intOf]; omega
        · obtain ⟨k, rfl⟩ := Int.eq_ofNat_of_zero_le (show 0 ≤ x by omega)
          have hkn : k < n := by omega
          obtain ⟨o, ho⟩ : ∃ o, ps[k]? = some o := ⟨_, List.getElem?_eq_getElem (by rw [hE.plen]; exact hkn)⟩
          have cN : wr.cell? ⟨w2.heap.size, k, none⟩ = some (pv o) := by rw [hN.cell]; exact pvs_at ho
          cases o with
          | none =>
            simp only [pv] at cN
            have nbl := hN.lt
            have tbl := hT.lt
            have q2 := hQr.q2
            have bql := hQr.q.lt
            have nx1 : ¬ w2.heap.size = wr.heap.size := by omega
            have nx2 : ¬ w2.heap.size + 1 = wr.heap.size := by omega
            have nx3 : ¬ wr.heap.size = w2.heap.size := by omega
            have nx4 : ¬ wr.heap.size = w2.heap.size + 1 := by omega
            have nx5 : ¬ bq = wr.heap.size := by omega
            have nx6 : ¬ w2.heap.size + 1 = w2.heap.size := by omega
            have nx7 : ¬ w2.heap.size = w2.heap.size + 1 := by omega
            have hwr := hmr.size
            have hkl0 : k < ps.length := by rw [hE.plen]; exact hkn
            rcases Nat.lt_or_ge nx klen with hkl2 | hkl2
            · obtain ⟨kb, koff, rfl, hkbl, hkc⟩ := HKS.out (by omega)
              obtain ⟨kv, hkv⟩ : ∃ y, ks[nx]? = some y := ⟨_, List.getElem?_eq_getElem (by have := HKLEN.out; omega)⟩
              have ck0 := hkc nx kv hkv
              have ck : wr.cell? ⟨kb, koff + nx, none⟩ = some (.bool kv) := by
                simp only [World.cell?] at ck0 ⊢
                rw [hmr.block kb hkbl (by simp)]
                exact ck0
              have hkbr : kb < wr.heap.size := Nat.lt_of_lt_of_le hkbl hmr.size
              have nx8 : ¬ kb = wr.heap.size := by omega
              clear hkc ck0 hkv
              have hki : (nx : Int) < (klen : Int) := by omega
              cases kv with
              | true =>
                have hS := Lib.hid (StartIs.back (bq := bq) hkn hf3)
                go_wp2_with (go_at_call 14; go_must (refine (hS.out _ ?hq).mono ?_; (case hq => go_simp); rintro e w3 ⟨bp, rfl, gbp, hP3, hm3⟩; (have hmA : Moves [] wr w3 := ((Moves.refl [] wr).alloc _).trans hm3 (fun x hx => by cases hx)); (have N3 := hmA.has hN (fun h => by cases h)); (have T3 := hmA.has hT (fun h => by cases h)); (have B3 : Has w3 wr.heap.size 37 #[.int .u8 2, .int .i64 (k : Int)] := hm3.has (Has.new' rfl) (fun h => by cases h)); (have cN3 : w3.cell? ⟨w2.heap.size, k, none⟩ = some (.pointer none) := by rw [N3.cell]; exact pvs_at ho); (have fN3 := N3.frozen k); (have cT3 : w3.cell? ⟨w2.heap.size + 1, k, none⟩ = some (.bool (tk.getD k false)) := by rw [T3.cell, bvs_at (by rw [hE.tlen]; exact hkn)]); (have fT3 := T3.frozen k); (have cB3 := B3.cell 0); (have nl3 := N3.lt); (have tl3 := T3.lt)))
                have gbp2 : wr.heap.size ≤ bp := by simp at gbp; omega
                have hk : (ps.set k (some (bp, ⟨.empty, k + 1, 0, 0, 0⟩)))[k]? = some (some (bp, ⟨.empty, k + 1, 0, 0, 0⟩)) := List.getElem?_set_self hkl0
                have hEx := hE.start ho bp false ⟨.empty, k + 1, 0, 0, 0⟩ rfl
                have hFx := hF.begun ho hmA gbp2 (by omega) hP3 rfl N3 T3 nx6 (.pointer (some ⟨bp, 0, none⟩)) (.bool false)
                have hQx := ((hQr.still hmA).off (k := k) N3 (by decide) (by omega) (.pointer (some ⟨bp, 0, none⟩))).off (k := k) (T3.far (p := ⟨w2.heap.size, k, none⟩) nx6 (.pointer (some ⟨bp, 0, none⟩))) (by decide) (by omega) (.bool false)
                have hNx := ((N3.put k (.pointer (some ⟨bp, 0, none⟩))).of_eq (pvs_set ps k (some (bp, ⟨.empty, k + 1, 0, 0, 0⟩)))).far (p := ⟨w2.heap.size + 1, k, none⟩) nx7 (.bool false)
                have hTx := ((T3.far (p := ⟨w2.heap.size, k, none⟩) nx6 (.pointer (some ⟨bp, 0, none⟩))).put k (.bool false)).of_eq (bvs_set tk k false)
                have hMx := ((hmr.trans hmA (fun x hx => by cases hx)).setNew (p := ⟨w2.heap.size, k, none⟩) hs02 (.pointer (some ⟨bp, 0, none⟩))).setNew (p := ⟨w2.heap.size + 1, k, none⟩) (Nat.le_succ_of_le hs02) (.bool false)
                obtain ⟨ps', hps'⟩ : ∃ x, x = ps.set k (some (bp, ⟨.empty, k + 1, 0, 0, 0⟩)) := ⟨_, rfl⟩
                obtain ⟨tk', htk'⟩ : ∃ x, x = tk.set k false := ⟨_, rfl⟩
                rw [← hps'] at hk hEx hNx hFx
                rw [← htk'] at hEx hTx
                clear hps' htk'
                obtain ⟨px, hpx⟩ : ∃ px : Pn, px = ⟨.empty, k + 1, 0, 0, 0⟩ := ⟨_, rfl⟩
                rw [← hpx] at hk
                clear hpx
                have hPx := (hFx.pend k bp px hk).2
                have hbase := (hFx.pend k bp px hk).1
                obtain ⟨cs77, hP77⟩ := hPx.at
                have hmine := hEx.mine k bp px hk
                have htotx := hEx.hand hk
                have hkl : k < ps'.length := (List.getElem?_eq_some_iff.1 hk).1
                have hnb0 : w2.heap.size ≠ 0 := by omega
                have ntx : ¬ w2.heap.size + 1 = w2.heap.size := by omega
                have oN : w2.heap.size ∉ [bp, bw] := by
                  simp only [List.mem_cons, List.not_mem_nil, or_false, not_or]
                  exact ⟨hNx.ne_type hP77 (by decide), hNx.ne_type hQx.m (by decide)⟩
                have oT : w2.heap.size + 1 ∉ [bp, bw] := by
                  simp only [List.mem_cons, List.not_mem_nil, or_false, not_or]
                  exact ⟨hTx.ne_type hP77 (by decide), hTx.ne_type hQx.m (by decide)⟩
                have hst0 := step_any bp bq bc bw batch n l px _ hPx hQx (hmine.2.1.wf hb1 hf3 hf1 htotx)
                have hsE := hEx.step hb1 hk
                obtain ⟨R, hR⟩ : ∃ R, R = qstep batch n l px := ⟨_, rfl⟩
                rw [← hR] at hst0 hsE
                clear hR
                rcases hsE with ⟨e1, hE1⟩ | ⟨e1, e2, hE1, hE2⟩ | ⟨e1, e2, hE1⟩
                · rw [e1] at hst0
                  have hst := Lib.hid hst0
                  clear hst0
                  go_wp2_with (go_at_call 17; go_must (refine (hst.out).mono ?_; rintro e w5 ⟨rfl, hP5, hQ5, hm5⟩; simp only [Dd.val, did]))
                  go_roundw
                  case rel =>
                    refine ⟨(nx + 1), T, i + 1, R.1, ps'.set k (some (bp, R.2.1)), tk', by omega, by omega, by go_num, rfl, by go_num, hE1, hQ5.alloc _, ?_, (hm5.has hTx oT).alloc _, ?_, ?_⟩
                    · rw [← pvs_same hk]
                      exact (hm5.has hNx oN).alloc _
                    · exact (hFx.step hk hm5 hQx.m hP5).still ((Moves.refl [] w5).alloc _)
                    · exact (hMx.trans hm5 (fun y hy => by simp at hy; right; omega)).alloc _
                  case measure => simp [intOf]; omega
                · rw [e1] at hst0
                  have hst := Lib.hid hst0
                  clear hst0
                  have HA0 := fun W h => answer_end bp bq R.2.1 e1 W h
                  obtain ⟨an, han⟩ : ∃ an, an = R.2.1.ans := ⟨_, rfl⟩
                  rw [← han] at HA0 hE1 hE2
                  have HA := Lib.hid HA0
                  clear HA0 han
                  have hTa : T + an ≤ limit := by have := hE1.sum; omega
                  obtain ⟨M, hM⟩ : ∃ M, M = n * batch := ⟨_, rfl⟩
                  have hM1 : M ≤ 64 * 1048576 := by rw [hM]; exact Nat.mul_le_mul hf3 hf2
                  have hmw : IntKind.i64.wrap ((n : Int) * (batch : Int)) = (M : Int) := by
                    rw [show (n : Int) * (batch : Int) = (M : Int) by rw [hM]; simp, IntKind.wrap_i64]
                    omega
                  have hmz : (n : Int) * (batch : Int) = (M : Int) := by rw [hM]; simp
                  rw [← hM] at hE2
                  clear hM
                  have rlast : ∀ (w5 : World) (o : Obj) (tv : Value), tv = .int .i64 ((T + an : Nat) : Int) → Quo w5 bq bc bw batch n R.1 → PendAt w5 bp bq R.2.1 → Moves [bp, bw] (((w3.setCell ⟨w2.heap.size, k, none⟩ (.pointer (some ⟨bp, 0, none⟩))).setCell ⟨w2.heap.size + 1, k, none⟩ (.bool false))) w5 → ∃ (n0 T0 i0 : Nat) (l : List Nat) (ps : List (Option (Nat × Pn))) (tk : List Bool), i0 ≤ len ∧ n0 ≤ i0 ∧ (.int .i64 ((nx : Int) + 1) : Value) = .int .i64 (n0 : Nat) ∧ tv = .int .i64 (T0 : Nat) ∧ (.int .i64 ((i : Int) + 1) : Value) = .int .i64 (i0 : Nat) ∧ Early batch n limit l ps tk T0 ∧
                      Quo ((w5.setCell ⟨w2.heap.size, k, none⟩ (.pointer none)).alloc o) bq bc bw batch n l ∧ Has ((w5.setCell ⟨w2.heap.size, k, none⟩ (.pointer none)).alloc o) w2.heap.size 32 (pvs ps) ∧ Has ((w5.setCell ⟨w2.heap.size, k, none⟩ (.pointer none)).alloc o) (w2.heap.size + 1) 4 (bvs tk) ∧ Fam ((w5.setCell ⟨w2.heap.size, k, none⟩ (.pointer none)).alloc o) w.heap.size bq ps ∧ Moves [] w ((w5.setCell ⟨w2.heap.size, k, none⟩ (.pointer none)).alloc o) := by
                    intro w5 o tv htv hQ5 hP5 hm5
                    have hN5 := hm5.has hNx oN
                    refine ⟨(nx + 1), T + an, i + 1, R.1, ps'.set k none, tk', by omega, by omega, by go_num, htv, by go_num, hE1, ?_, ?_, ?_, ?_, ?_⟩
                    · exact (hQ5.off hN5 (by decide) hnb0 _).alloc o
                    · exact ((hN5.put k _).of_eq (pvs_set ps' k none)).alloc o
                    · exact ((hm5.has hTx oT).far (p := ⟨w2.heap.size, k, none⟩) ntx _).alloc o
                    · exact (hFx.step hk hm5 hQx.m hP5).finish e1 hN5 hkl o _
                    · exact ((hMx.trans hm5 (fun y hy => by simp at hy; right; omega)).setNew (p := ⟨w2.heap.size, k, none⟩) hs02 _).alloc o
                  have RL := Lib.hid rlast
                  clear rlast
                  by_cases ha : an = 0
                  · have hab : ((an : Int) == 0) = true := by simp [ha]
                    have hlm : (limit : Int) - ((T : Int) + (an : Int)) ≤ (M : Int) := by have := hE2 ha; omega
                    go_wp2_with (first | (go_at_call 17; go_must (refine (hst.out).mono ?_; rintro e w5 ⟨rfl, hP5, hQ5, hm5⟩; simp only [Dd.val, did]; (have hN5 := hm5.has hNx oN); (have hT5 := hm5.has hTx oT); (have cN5 : w5.cell? ⟨w2.heap.size, k, none⟩ = some (.pointer (some ⟨bp, 0, none⟩)) := by rw [hN5.cell]; exact pvs_at hk); (have fN5 := hN5.frozen k); (have cT5 : w5.cell? ⟨w2.heap.size + 1, k, none⟩ = some (.bool true) := by rw [hT5.cell, bvs_at (by rw [hEx.tlen]; exact hkn), e2]); (have nl5 := hN5.lt); (have tl5 := hT5.lt))) | (go_at_call 20; refine (HA.out _ (hP5.allocEnd e1 _)).mono ?_; rintro e w' ⟨rfl, rfl⟩))
                    go_roundw
                    case rel => exact RL.out w5 _ (.int .i64 (T : Int)) (by simp [ha]) hQ5 hP5 hm5
                    case measure => simp [intOf]; omega
                  · have hab : ((an : Int) == 0) = false := by simp; omega
                    go_wp2_with (first | (go_at_call 17; go_must (refine (hst.out).mono ?_; rintro e w5 ⟨rfl, hP5, hQ5, hm5⟩; simp only [Dd.val, did]; (have hN5 := hm5.has hNx oN); (have hT5 := hm5.has hTx oT); (have cN5 : w5.cell? ⟨w2.heap.size, k, none⟩ = some (.pointer (some ⟨bp, 0, none⟩)) := by rw [hN5.cell]; exact pvs_at hk); (have fN5 := hN5.frozen k); (have cT5 : w5.cell? ⟨w2.heap.size + 1, k, none⟩ = some (.bool true) := by rw [hT5.cell, bvs_at (by rw [hEx.tlen]; exact hkn), e2]); (have nl5 := hN5.lt); (have tl5 := hT5.lt))) | (go_at_call 20; refine (HA.out _ (hP5.allocEnd e1 _)).mono ?_; rintro e w' ⟨rfl, rfl⟩))
                    go_roundw
                    case rel => exact RL.out w5 _ (.int .i64 ((T : Int) + (an : Int))) (by go_num) hQ5 hP5 hm5
                    case measure => simp [intOf]; omega
                · rw [e1] at hst0
                  have hst := Lib.hid hst0
                  clear hst0
                  have HA := Lib.hid (fun W h => answer_end bp bq R.2.1 e1 W h)
                  go_wp2_with (first | (go_at_call 17; go_must (refine (hst.out).mono ?_; rintro e w5 ⟨rfl, hP5, hQ5, hm5⟩; simp only [Dd.val, did]; (have hN5 := hm5.has hNx oN); (have hT5 := hm5.has hTx oT); (have cN5 : w5.cell? ⟨w2.heap.size, k, none⟩ = some (.pointer (some ⟨bp, 0, none⟩)) := by rw [hN5.cell]; exact pvs_at hk); (have fN5 := hN5.frozen k); (have cT5 : w5.cell? ⟨w2.heap.size + 1, k, none⟩ = some (.bool false) := by rw [hT5.cell, bvs_at (by rw [hEx.tlen]; exact hkn), e2]); (have nl5 := hN5.lt); (have tl5 := hT5.lt))) | (go_at_call 20; refine (HA.out _ (hP5.allocEnd e1 _)).mono ?_; rintro e w' ⟨rfl, rfl⟩))
                  go_roundw
                  case rel =>
                    refine ⟨(nx + 1), T, i + 1, R.1, ps'.set k none, tk', by omega, by omega, by go_num, by go_num, by go_num, hE1, ?_, ?_, ?_, ?_, ?_⟩
                    · exact (hQ5.off hN5 (by decide) hnb0 _).alloc _
                    · exact ((hN5.put k _).of_eq (pvs_set ps' k none)).alloc _
                    · exact ((hm5.has hTx oT).far (p := ⟨w2.heap.size, k, none⟩) ntx _).alloc _
                    · exact (hFx.step hk hm5 hQx.m hP5).finish e1 hN5 hkl _ _
                    · exact ((hMx.trans hm5 (fun y hy => by simp at hy; right; omega)).setNew (p := ⟨w2.heap.size, k, none⟩) hs02 _).alloc _
                  case measure => simp [intOf]; omega
              | false =>
                have hS := Lib.hid (StartIs.take (bq := bq) hkn hf3)
                go_wp2_with (go_at_call 14; go_must (refine (hS.out _ ?hq).mono ?_; (case hq => go_simp); rintro e w3 ⟨bp, rfl, gbp, hP3, hm3⟩; (have hmA : Moves [] wr w3 := ((Moves.refl [] wr).alloc _).trans hm3 (fun x hx => by cases hx)); (have N3 := hmA.has hN (fun h => by cases h)); (have T3 := hmA.has hT (fun h => by cases h)); (have B3 : Has w3 wr.heap.size 37 #[.int .u8 1, .int .i64 (k : Int)] := hm3.has (Has.new' rfl) (fun h => by cases h)); (have cN3 : w3.cell? ⟨w2.heap.size, k, none⟩ = some (.pointer none) := by rw [N3.cell]; exact pvs_at ho); (have fN3 := N3.frozen k); (have cT3 : w3.cell? ⟨w2.heap.size + 1, k, none⟩ = some (.bool (tk.getD k false)) := by rw [T3.cell, bvs_at (by rw [hE.tlen]; exact hkn)]); (have fT3 := T3.frozen k); (have cB3 := B3.cell 0); (have nl3 := N3.lt); (have tl3 := T3.lt)))
                have gbp2 : wr.heap.size ≤ bp := by simp at gbp; omega
                have hk : (ps.set k (some (bp, ⟨.look, k + 1, 0, 0, 0⟩)))[k]? = some (some (bp, ⟨.look, k + 1, 0, 0, 0⟩)) := List.getElem?_set_self hkl0
                have hEx := hE.start ho bp true ⟨.look, k + 1, 0, 0, 0⟩ rfl
                have hFx := hF.begun ho hmA gbp2 (by omega) hP3 rfl N3 T3 nx6 (.pointer (some ⟨bp, 0, none⟩)) (.bool true)
                have hQx := ((hQr.still hmA).off (k := k) N3 (by decide) (by omega) (.pointer (some ⟨bp, 0, none⟩))).off (k := k) (T3.far (p := ⟨w2.heap.size, k, none⟩) nx6 (.pointer (some ⟨bp, 0, none⟩))) (by decide) (by omega) (.bool true)
                have hNx := ((N3.put k (.pointer (some ⟨bp, 0, none⟩))).of_eq (pvs_set ps k (some (bp, ⟨.look, k + 1, 0, 0, 0⟩)))).far (p := ⟨w2.heap.size + 1, k, none⟩) nx7 (.bool true)
                have hTx := ((T3.far (p := ⟨w2.heap.size, k, none⟩) nx6 (.pointer (some ⟨bp, 0, none⟩))).put k (.bool true)).of_eq (bvs_set tk k true)
                have hMx := ((hmr.trans hmA (fun x hx => by cases hx)).setNew (p := ⟨w2.heap.size, k, none⟩) hs02 (.pointer (some ⟨bp, 0, none⟩))).setNew (p := ⟨w2.heap.size + 1, k, none⟩) (Nat.le_succ_of_le hs02) (.bool true)
                obtain ⟨ps', hps'⟩ : ∃ x, x = ps.set k (some (bp, ⟨.look, k + 1, 0, 0, 0⟩)) := ⟨_, rfl⟩
                obtain ⟨tk', htk'⟩ : ∃ x, x = tk.set k true := ⟨_, rfl⟩
                rw [← hps'] at hk hEx hNx hFx
                rw [← htk'] at hEx hTx
                clear hps' htk'
                obtain ⟨px, hpx⟩ : ∃ px : Pn, px = ⟨.look, k + 1, 0, 0, 0⟩ := ⟨_, rfl⟩
                rw [← hpx] at hk
                clear hpx
                have hPx := (hFx.pend k bp px hk).2
                have hbase := (hFx.pend k bp px hk).1
                obtain ⟨cs77, hP77⟩ := hPx.at
                have hmine := hEx.mine k bp px hk
                have htotx := hEx.hand hk
                have hkl : k < ps'.length := (List.getElem?_eq_some_iff.1 hk).1
                have hnb0 : w2.heap.size ≠ 0 := by omega
                have ntx : ¬ w2.heap.size + 1 = w2.heap.size := by omega
                have oN : w2.heap.size ∉ [bp, bw] := by
                  simp only [List.mem_cons, List.not_mem_nil, or_false, not_or]
                  exact ⟨hNx.ne_type hP77 (by decide), hNx.ne_type hQx.m (by decide)⟩
                have oT : w2.heap.size + 1 ∉ [bp, bw] := by
                  simp only [List.mem_cons, List.not_mem_nil, or_false, not_or]
                  exact ⟨hTx.ne_type hP77 (by decide), hTx.ne_type hQx.m (by decide)⟩
                have hst0 := step_any bp bq bc bw batch n l px _ hPx hQx (hmine.2.1.wf hb1 hf3 hf1 htotx)
                have hsE := hEx.step hb1 hk
                obtain ⟨R, hR⟩ : ∃ R, R = qstep batch n l px := ⟨_, rfl⟩
                rw [← hR] at hst0 hsE
                clear hR
                rcases hsE with ⟨e1, hE1⟩ | ⟨e1, e2, hE1, hE2⟩ | ⟨e1, e2, hE1⟩
                · rw [e1] at hst0
                  have hst := Lib.hid hst0
                  clear hst0
                  go_wp2_with (go_at_call 17; go_must (refine (hst.out).mono ?_; rintro e w5 ⟨rfl, hP5, hQ5, hm5⟩; simp only [Dd.val, did]))
                  go_roundw
                  case rel =>
                    refine ⟨(nx + 1), T, i + 1, R.1, ps'.set k (some (bp, R.2.1)), tk', by omega, by omega, by go_num, rfl, by go_num, hE1, hQ5.alloc _, ?_, (hm5.has hTx oT).alloc _, ?_, ?_⟩
                    · rw [← pvs_same hk]
                      exact (hm5.has hNx oN).alloc _
                    · exact (hFx.step hk hm5 hQx.m hP5).still ((Moves.refl [] w5).alloc _)
                    · exact (hMx.trans hm5 (fun y hy => by simp at hy; right; omega)).alloc _
                  case measure => simp [intOf]; omega
                · rw [e1] at hst0
                  have hst := Lib.hid hst0
                  clear hst0
                  have HA0 := fun W h => answer_end bp bq R.2.1 e1 W h
                  obtain ⟨an, han⟩ : ∃ an, an = R.2.1.ans := ⟨_, rfl⟩
                  rw [← han] at HA0 hE1 hE2
                  have HA := Lib.hid HA0
                  clear HA0 han
                  have hTa : T + an ≤ limit := by have := hE1.sum; omega
                  obtain ⟨M, hM⟩ : ∃ M, M = n * batch := ⟨_, rfl⟩
                  have hM1 : M ≤ 64 * 1048576 := by rw [hM]; exact Nat.mul_le_mul hf3 hf2
                  have hmw : IntKind.i64.wrap ((n : Int) * (batch : Int)) = (M : Int) := by
                    rw [show (n : Int) * (batch : Int) = (M : Int) by rw [hM]; simp, IntKind.wrap_i64]
                    omega
                  have hmz : (n : Int) * (batch : Int) = (M : Int) := by rw [hM]; simp
                  rw [← hM] at hE2
                  clear hM
                  have rlast : ∀ (w5 : World) (o : Obj) (tv : Value), tv = .int .i64 ((T + an : Nat) : Int) → Quo w5 bq bc bw batch n R.1 → PendAt w5 bp bq R.2.1 → Moves [bp, bw] (((w3.setCell ⟨w2.heap.size, k, none⟩ (.pointer (some ⟨bp, 0, none⟩))).setCell ⟨w2.heap.size + 1, k, none⟩ (.bool true))) w5 → ∃ (n0 T0 i0 : Nat) (l : List Nat) (ps : List (Option (Nat × Pn))) (tk : List Bool), i0 ≤ len ∧ n0 ≤ i0 ∧ (.int .i64 ((nx : Int) + 1) : Value) = .int .i64 (n0 : Nat) ∧ tv = .int .i64 (T0 : Nat) ∧ (.int .i64 ((i : Int) + 1) : Value) = .int .i64 (i0 : Nat) ∧ Early batch n limit l ps tk T0 ∧
                      Quo ((w5.setCell ⟨w2.heap.size, k, none⟩ (.pointer none)).alloc o) bq bc bw batch n l ∧ Has ((w5.setCell ⟨w2.heap.size, k, none⟩ (.pointer none)).alloc o) w2.heap.size 32 (pvs ps) ∧ Has ((w5.setCell ⟨w2.heap.size, k, none⟩ (.pointer none)).alloc o) (w2.heap.size + 1) 4 (bvs tk) ∧ Fam ((w5.setCell ⟨w2.heap.size, k, none⟩ (.pointer none)).alloc o) w.heap.size bq ps ∧ Moves [] w ((w5.setCell ⟨w2.heap.size, k, none⟩ (.pointer none)).alloc o) := by
                    intro w5 o tv htv hQ5 hP5 hm5
                    have hN5 := hm5.has hNx oN
                    refine ⟨(nx + 1), T + an, i + 1, R.1, ps'.set k none, tk', by omega, by omega, by go_num, htv, by go_num, hE1, ?_, ?_, ?_, ?_, ?_⟩
                    · exact (hQ5.off hN5 (by decide) hnb0 _).alloc o
                    · exact ((hN5.put k _).of_eq (pvs_set ps' k none)).alloc o
                    · exact ((hm5.has hTx oT).far (p := ⟨w2.heap.size, k, none⟩) ntx _).alloc o
                    · exact (hFx.step hk hm5 hQx.m hP5).finish e1 hN5 hkl o _
                    · exact ((hMx.trans hm5 (fun y hy => by simp at hy; right; omega)).setNew (p := ⟨w2.heap.size, k, none⟩) hs02 _).alloc o
                  have RL := Lib.hid rlast
                  clear rlast
                  by_cases ha : an = 0
                  · have hab : ((an : Int) == 0) = true := by simp [ha]
                    have hlm : (limit : Int) - ((T : Int) + (an : Int)) ≤ (M : Int) := by have := hE2 ha; omega
                    go_wp2_with (first | (go_at_call 17; go_must (refine (hst.out).mono ?_; rintro e w5 ⟨rfl, hP5, hQ5, hm5⟩; simp only [Dd.val, did]; (have hN5 := hm5.has hNx oN); (have hT5 := hm5.has hTx oT); (have cN5 : w5.cell? ⟨w2.heap.size, k, none⟩ = some (.pointer (some ⟨bp, 0, none⟩)) := by rw [hN5.cell]; exact pvs_at hk); (have fN5 := hN5.frozen k); (have cT5 : w5.cell? ⟨w2.heap.size + 1, k, none⟩ = some (.bool true) := by rw [hT5.cell, bvs_at (by rw [hEx.tlen]; exact hkn), e2]); (have nl5 := hN5.lt); (have tl5 := hT5.lt))) | (go_at_call 20; refine (HA.out _ (hP5.allocEnd e1 _)).mono ?_; rintro e w' ⟨rfl, rfl⟩))
                    go_roundw
                    case rel => exact RL.out w5 _ (.int .i64 (T : Int)) (by simp [ha]) hQ5 hP5 hm5
                    case measure => simp [intOf]; omega
                  · have hab : ((an : Int) == 0) = false := by simp; omega
                    go_wp2_with (first | (go_at_call 17; go_must (refine (hst.out).mono ?_; rintro e w5 ⟨rfl, hP5, hQ5, hm5⟩; simp only [Dd.val, did]; (have hN5 := hm5.has hNx oN); (have hT5 := hm5.has hTx oT); (have cN5 : w5.cell? ⟨w2.heap.size, k, none⟩ = some (.pointer (some ⟨bp, 0, none⟩)) := by rw [hN5.cell]; exact pvs_at hk); (have fN5 := hN5.frozen k); (have cT5 : w5.cell? ⟨w2.heap.size + 1, k, none⟩ = some (.bool true) := by rw [hT5.cell, bvs_at (by rw [hEx.tlen]; exact hkn), e2]); (have nl5 := hN5.lt); (have tl5 := hT5.lt))) | (go_at_call 20; refine (HA.out _ (hP5.allocEnd e1 _)).mono ?_; rintro e w' ⟨rfl, rfl⟩))
                    go_roundw
                    case rel => exact RL.out w5 _ (.int .i64 ((T : Int) + (an : Int))) (by go_num) hQ5 hP5 hm5
                    case measure => simp [intOf]; omega
                · rw [e1] at hst0
                  have hst := Lib.hid hst0
                  clear hst0
                  have HA := Lib.hid (fun W h => answer_end bp bq R.2.1 e1 W h)
                  go_wp2_with (first | (go_at_call 17; go_must (refine (hst.out).mono ?_; rintro e w5 ⟨rfl, hP5, hQ5, hm5⟩; simp only [Dd.val, did]; (have hN5 := hm5.has hNx oN); (have hT5 := hm5.has hTx oT); (have cN5 : w5.cell? ⟨w2.heap.size, k, none⟩ = some (.pointer (some ⟨bp, 0, none⟩)) := by rw [hN5.cell]; exact pvs_at hk); (have fN5 := hN5.frozen k); (have cT5 : w5.cell? ⟨w2.heap.size + 1, k, none⟩ = some (.bool false) := by rw [hT5.cell, bvs_at (by rw [hEx.tlen]; exact hkn), e2]); (have nl5 := hN5.lt); (have tl5 := hT5.lt))) | (go_at_call 20; refine (HA.out _ (hP5.allocEnd e1 _)).mono ?_; rintro e w' ⟨rfl, rfl⟩))
                  go_roundw
                  case rel =>
                    refine ⟨(nx + 1), T, i + 1, R.1, ps'.set k none, tk', by omega, by omega, by go_num, by go_num, by go_num, hE1, ?_, ?_, ?_, ?_, ?_⟩
                    · exact (hQ5.off hN5 (by decide) hnb0 _).alloc _
                    · exact ((hN5.put k _).of_eq (pvs_set ps' k none)).alloc _
                    · exact ((hm5.has hTx oT).far (p := ⟨w2.heap.size, k, none⟩) ntx _).alloc _
                    · exact (hFx.step hk hm5 hQx.m hP5).finish e1 hN5 hkl _ _
                    · exact ((hMx.trans hm5 (fun y hy => by simp at hy; right; omega)).setNew (p := ⟨w2.heap.size, k, none⟩) hs02 _).alloc _
                  case measure => simp [intOf]; omega
            · have hki : (klen : Int) ≤ (nx : Int) := by omega
              have hS := Lib.hid (StartIs.take (bq := bq) hkn hf3)
              go_wp2_with (go_at_call 14; go_must (refine (hS.out _ ?hq).mono ?_; (case hq => go_simp); rintro e w3 ⟨bp, rfl, gbp, hP3, hm3⟩; (have hmA : Moves [] wr w3 := ((Moves.refl [] wr).alloc _).trans hm3 (fun x hx => by cases hx)); (have N3 := hmA.has hN (fun h => by cases h)); (have T3 := hmA.has hT (fun h => by cases h)); (have B3 : Has w3 wr.heap.size 37 #[.int .u8 1, .int .i64 (k : Int)] := hm3.has (Has.new' rfl) (fun h => by cases h)); (have cN3 : w3.cell? ⟨w2.heap.size, k, none⟩ = some (.pointer none) := by rw [N3.cell]; exact pvs_at ho); (have fN3 := N3.frozen k); (have cT3 : w3.cell? ⟨w2.heap.size + 1, k, none⟩ = some (.bool (tk.getD k false)) := by rw [T3.cell, bvs_at (by rw [hE.tlen]; exact hkn)]); (have fT3 := T3.frozen k); (have cB3 := B3.cell 0); (have nl3 := N3.lt); (have tl3 := T3.lt)))
              have gbp2 : wr.heap.size ≤ bp := by simp at gbp; omega
              have hk : (ps.set k (some (bp, ⟨.look, k + 1, 0, 0, 0⟩)))[k]? = some (some (bp, ⟨.look, k + 1, 0, 0, 0⟩)) := List.getElem?_set_self hkl0
              have hEx := hE.start ho bp true ⟨.look, k + 1, 0, 0, 0⟩ rfl
              have hFx := hF.begun ho hmA gbp2 (by omega) hP3 rfl N3 T3 nx6 (.pointer (some ⟨bp, 0, none⟩)) (.bool true)
              have hQx := ((hQr.still hmA).off (k := k) N3 (by decide) (by omega) (.pointer (some ⟨bp, 0, none⟩))).off (k := k) (T3.far (p := ⟨w2.heap.size, k, none⟩) nx6 (.pointer (some ⟨bp, 0, none⟩))) (by decide) (by omega) (.bool true)
              have hNx := ((N3.put k (.pointer (some ⟨bp, 0, none⟩))).of_eq (pvs_set ps k (some (bp, ⟨.look, k + 1, 0, 0, 0⟩)))).far (p := ⟨w2.heap.size + 1, k, none⟩) nx7 (.bool true)
              have hTx := ((T3.far (p := ⟨w2.heap.size, k, none⟩) nx6 (.pointer (some ⟨bp, 0, none⟩))).put k (.bool true)).of_eq (bvs_set tk k true)
              have hMx := ((hmr.trans hmA (fun x hx => by cases hx)).setNew (p := ⟨w2.heap.size, k, none⟩) hs02 (.pointer (some ⟨bp, 0, none⟩))).setNew (p := ⟨w2.heap.size + 1, k, none⟩) (Nat.le_succ_of_le hs02) (.bool true)
              obtain ⟨ps', hps'⟩ : ∃ x, x = ps.set k (some (bp, ⟨.look, k + 1, 0, 0, 0⟩)) := ⟨_, rfl⟩
              obtain ⟨tk', htk'⟩ : ∃ x, x = tk.set k true := ⟨_, rfl⟩
              rw [← hps'] at hk hEx hNx hFx
              rw [← htk'] at hEx hTx
              clear hps' htk'
              obtain ⟨px, hpx⟩ : ∃ px : Pn, px = ⟨.look, k + 1, 0, 0, 0⟩ := ⟨_, rfl⟩
              rw [← hpx] at hk
              clear hpx
              have hPx := (hFx.pend k bp px hk).2
              have hbase := (hFx.pend k bp px hk).1
              obtain ⟨cs77, hP77⟩ := hPx.at
              have hmine := hEx.mine k bp px hk
              have htotx := hEx.hand hk
              have hkl : k < ps'.length := (List.getElem?_eq_some_iff.1 hk).1
              have hnb0 : w2.heap.size ≠ 0 := by omega
              have ntx : ¬ w2.heap.size + 1 = w2.heap.size := by omega
              have oN : w2.heap.size ∉ [bp, bw] := by
                simp only [List.mem_cons, List.not_mem_nil, or_false, not_or]
                exact ⟨hNx.ne_type hP77 (by decide), hNx.ne_type hQx.m (by decide)⟩
              have oT : w2.heap.size + 1 ∉ [bp, bw] := by
                simp only [List.mem_cons, List.not_mem_nil, or_false, not_or]
                exact ⟨hTx.ne_type hP77 (by decide), hTx.ne_type hQx.m (by decide)⟩
              have hst0 := step_any bp bq bc bw batch n l px _ hPx hQx (hmine.2.1.wf hb1 hf3 hf1 htotx)
              have hsE := hEx.step hb1 hk
              obtain ⟨R, hR⟩ : ∃ R, R = qstep batch n l px := ⟨_, rfl⟩
              rw [← hR] at hst0 hsE
              clear hR
              rcases hsE with ⟨e1, hE1⟩ | ⟨e1, e2, hE1, hE2⟩ | ⟨e1, e2, hE1⟩
              · rw [e1] at hst0
                have hst := Lib.hid hst0
                clear hst0
                go_wp2_with (go_at_call 17; go_must (refine (hst.out).mono ?_; rintro e w5 ⟨rfl, hP5, hQ5, hm5⟩; simp only [Dd.val, did]))
                go_roundw
                case rel =>
                  refine ⟨(nx + 1), T, i + 1, R.1, ps'.set k (some (bp, R.2.1)), tk', by omega, by omega, by go_num, rfl, by go_num, hE1, hQ5.alloc _, ?_, (hm5.has hTx oT).alloc _, ?_, ?_⟩
                  · rw [← pvs_same hk]
                    exact (hm5.has hNx oN).alloc _
                  · exact (hFx.step hk hm5 hQx.m hP5).still ((Moves.refl [] w5).alloc _)
                  · exact (hMx.trans hm5 (fun y hy => by simp at hy; right; omega)).alloc _
                case measure => simp [intOf]; omega
              · rw [e1] at hst0
                have hst := Lib.hid hst0
                clear hst0
                have HA0 := fun W h => answer_end bp bq R.2.1 e1 W h
                obtain ⟨an, han⟩ : ∃ an, an = R.2.1.ans := ⟨_, rfl⟩
                rw [← han] at HA0 hE1 hE2
                have HA := Lib.hid HA0
                clear HA0 han
                have hTa : T + an ≤ limit := by have := hE1.sum; omega
                obtain ⟨M, hM⟩ : ∃ M, M = n * batch := ⟨_, rfl⟩
                have hM1 : M ≤ 64 * 1048576 := by rw [hM]; exact Nat.mul_le_mul hf3 hf2
                have hmw : IntKind.i64.wrap ((n : Int) * (batch : Int)) = (M : Int) := by
                  rw [show (n : Int) * (batch : Int) = (M : Int) by rw [hM]; simp, IntKind.wrap_i64]
                  omega
                have hmz : (n : Int) * (batch : Int) = (M : Int) := by rw [hM]; simp
                rw [← hM] at hE2
                clear hM
                have rlast : ∀ (w5 : World) (o : Obj) (tv : Value), tv = .int .i64 ((T + an : Nat) : Int) → Quo w5 bq bc bw batch n R.1 → PendAt w5 bp bq R.2.1 → Moves [bp, bw] (((w3.setCell ⟨w2.heap.size, k, none⟩ (.pointer (some ⟨bp, 0, none⟩))).setCell ⟨w2.heap.size + 1, k, none⟩ (.bool true))) w5 → ∃ (n0 T0 i0 : Nat) (l : List Nat) (ps : List (Option (Nat × Pn))) (tk : List Bool), i0 ≤ len ∧ n0 ≤ i0 ∧ (.int .i64 ((nx : Int) + 1) : Value) = .int .i64 (n0 : Nat) ∧ tv = .int .i64 (T0 : Nat) ∧ (.int .i64 ((i : Int) + 1) : Value) = .int .i64 (i0 : Nat) ∧ Early batch n limit l ps tk T0 ∧
                    Quo ((w5.setCell ⟨w2.heap.size, k, none⟩ (.pointer none)).alloc o) bq bc bw batch n l ∧ Has ((w5.setCell ⟨w2.heap.size, k, none⟩ (.pointer none)).alloc o) w2.heap.size 32 (pvs ps) ∧ Has ((w5.setCell ⟨w2.heap.size, k, none⟩ (.pointer none)).alloc o) (w2.heap.size + 1) 4 (bvs tk) ∧ Fam ((w5.setCell ⟨w2.heap.size, k, none⟩ (.pointer none)).alloc o) w.heap.size bq ps ∧ Moves [] w ((w5.setCell ⟨w2.heap.size, k, none⟩ (.pointer none)).alloc o) := by
                  intro w5 o tv htv hQ5 hP5 hm5
                  have hN5 := hm5.has hNx oN
                  refine ⟨(nx + 1), T + an, i + 1, R.1, ps'.set k none, tk', by omega, by omega, by go_num, htv, by go_num, hE1, ?_, ?_, ?_, ?_, ?_⟩
                  · exact (hQ5.off hN5 (by decide) hnb0 _).alloc o
                  · exact ((hN5.put k _).of_eq (pvs_set ps' k none)).alloc o
                  · exact ((hm5.has hTx oT).far (p := ⟨w2.heap.size, k, none⟩) ntx _).alloc o
                  · exact (hFx.step hk hm5 hQx.m hP5).finish e1 hN5 hkl o _
                  · exact ((hMx.trans hm5 (fun y hy => by simp at hy; right; omega)).setNew (p := ⟨w2.heap.size, k, none⟩) hs02 _).alloc o
                have RL := Lib.hid rlast
                clear rlast
                by_cases ha : an = 0
                · have hab : ((an : Int) == 0) = true := by simp [ha]
                  have hlm : (limit : Int) - ((T : Int) + (an : Int)) ≤ (M : Int) := by have := hE2 ha; omega
                  go_wp2_with (first | (go_at_call 17; go_must (refine (hst.out).mono ?_; rintro e w5 ⟨rfl, hP5, hQ5, hm5⟩; simp only [Dd.val, did]; (have hN5 := hm5.has hNx oN); (have hT5 := hm5.has hTx oT); (have cN5 : w5.cell? ⟨w2.heap.size, k, none⟩ = some (.pointer (some ⟨bp, 0, none⟩)) := by rw [hN5.cell]; exact pvs_at hk); (have fN5 := hN5.frozen k); (have cT5 : w5.cell? ⟨w2.heap.size + 1, k, none⟩ = some (.bool true) := by rw [hT5.cell, bvs_at (by rw [hEx.tlen]; exact hkn), e2]); (have nl5 := hN5.lt); (have tl5 := hT5.lt))) | (go_at_call 20; refine (HA.out _ (hP5.allocEnd e1 _)).mono ?_; rintro e w' ⟨rfl, rfl⟩))
                  go_roundw
                  case rel => exact RL.out w5 _ (.int .i64 (T : Int)) (by simp [ha]) hQ5 hP5 hm5
                  case measure => simp [intOf]; omega
                · have hab : ((an : Int) == 0) = false := by simp; omega
                  go_wp2_with (first | (go_at_call 17; go_must (refine (hst.out).mono ?_; rintro e w5 ⟨rfl, hP5, hQ5, hm5⟩; simp only [Dd.val, did]; (have hN5 := hm5.has hNx oN); (have hT5 := hm5.has hTx oT); (have cN5 : w5.cell? ⟨w2.heap.size, k, none⟩ = some (.pointer (some ⟨bp, 0, none⟩)) := by rw [hN5.cell]; exact pvs_at hk); (have fN5 := hN5.frozen k); (have cT5 : w5.cell? ⟨w2.heap.size + 1, k, none⟩ = some (.bool true) := by rw [hT5.cell, bvs_at (by rw [hEx.tlen]; exact hkn), e2]); (have nl5 := hN5.lt); (have tl5 := hT5.lt))) | (go_at_call 20; refine (HA.out _ (hP5.allocEnd e1 _)).mono ?_; rintro e w' ⟨rfl, rfl⟩))
                  go_roundw
                  case rel => exact RL.out w5 _ (.int .i64 ((T : Int) + (an : Int))) (by go_num) hQ5 hP5 hm5
                  case measure => simp [intOf]; omega
              · rw [e1] at hst0
                have hst := Lib.hid hst0
                clear hst0
                have HA := Lib.hid (fun W h => answer_end bp bq R.2.1 e1 W h)
                go_wp2_with (first | (go_at_call 17; go_must (refine (hst.out).mono ?_; rintro e w5 ⟨rfl, hP5, hQ5, hm5⟩; simp only [Dd.val, did]; (have hN5 := hm5.has hNx oN); (have hT5 := hm5.has hTx oT); (have cN5 : w5.cell? ⟨w2.heap.size, k, none⟩ = some (.pointer (some ⟨bp, 0, none⟩)) := by rw [hN5.cell]; exact pvs_at hk); (have fN5 := hN5.frozen k); (have cT5 : w5.cell? ⟨w2.heap.size + 1, k, none⟩ = some (.bool false) := by rw [hT5.cell, bvs_at (by rw [hEx.tlen]; exact hkn), e2]); (have nl5 := hN5.lt); (have tl5 := hT5.lt))) | (go_at_call 20; refine (HA.out _ (hP5.allocEnd e1 _)).mono ?_; rintro e w' ⟨rfl, rfl⟩))
                go_roundw
                case rel =>
                  refine ⟨(nx + 1), T, i + 1, R.1, ps'.set k none, tk', by omega, by omega, by go_num, by go_num, by go_num, hE1, ?_, ?_, ?_, ?_, ?_⟩
                  · exact (hQ5.off hN5 (by decide) hnb0 _).alloc _
                  · exact ((hN5.put k _).of_eq (pvs_set ps' k none)).alloc _
                  · exact ((hm5.has hTx oT).far (p := ⟨w2.heap.size, k, none⟩) ntx _).alloc _
                  · exact (hFx.step hk hm5 hQx.m hP5).finish e1 hN5 hkl _ _
                  · exact ((hMx.trans hm5 (fun y hy => by simp at hy; right; omega)).setNew (p := ⟨w2.heap.size, k, none⟩) hs02 _).alloc _
                case measure => simp [intOf]; omega
          | some q =>
            obtain ⟨bp, p⟩ := q
            simp only [pv] at cN
            go_wp2_with fail
            have hk := ho
            have hEx := hE
            have hQx := hQr
            have hNx := hN
            have hTx := hT
            have hFx := hF
            have hMx := hmr
            obtain ⟨px, hpx⟩ : ∃ px, px = p := ⟨_, rfl⟩
            rw [← hpx] at hk
            clear hpx ho cx
            have hPx := (hFx.pend k bp px hk).2
            have hbase := (hFx.pend k bp px hk).1
            obtain ⟨cs77, hP77⟩ := hPx.at
            have hmine := hEx.mine k bp px hk
            have htotx := hEx.hand hk
            have hkl : k < ps.length := (List.getElem?_eq_some_iff.1 hk).1
            have hnb0 : w2.heap.size ≠ 0 := by omega
            have ntx : ¬ w2.heap.size + 1 = w2.heap.size := by omega
            have oN : w2.heap.size ∉ [bp, bw] := by
              simp only [List.mem_cons, List.not_mem_nil, or_false, not_or]
              exact ⟨hNx.ne_type hP77 (by decide), hNx.ne_type hQx.m (by decide)⟩
            have oT : w2.heap.size + 1 ∉ [bp, bw] := by
              simp only [List.mem_cons, List.not_mem_nil, or_false, not_or]
              exact ⟨hTx.ne_type hP77 (by decide), hTx.ne_type hQx.m (by decide)⟩
            have hst0 := step_any bp bq bc bw batch n l px _ hPx hQx (hmine.2.1.wf hb1 hf3 hf1 htotx)
            have hsE := hEx.step hb1 hk
            obtain ⟨R, hR⟩ : ∃ R, R = qstep batch n l px := ⟨_, rfl⟩
            rw [← hR] at hst0 hsE
            clear hR
            rcases hsE with ⟨e1, hE1⟩ | ⟨e1, e2, hE1, hE2⟩ | ⟨e1, e2, hE1⟩
            · rw [e1] at hst0
              have hst := Lib.hid hst0
              clear hst0
              go_wp2_with (go_at_call 17; go_must (refine (hst.out).mono ?_; rintro e w5 ⟨rfl, hP5, hQ5, hm5⟩; simp only [Dd.val, did]))
              go_roundw
              case rel =>
                refine ⟨nx, T, i + 1, R.1, ps.set k (some (bp, R.2.1)), tk, by omega, by omega, by go_num, rfl, by go_num, hE1, hQ5.alloc _, ?_, (hm5.has hTx oT).alloc _, ?_, ?_⟩
                · rw [← pvs_same hk]
                  exact (hm5.has hNx oN).alloc _
                · exact (hFx.step hk hm5 hQx.m hP5).still ((Moves.refl [] w5).alloc _)
                · exact (hMx.trans hm5 (fun y hy => by simp at hy; right; omega)).alloc _
              case measure => simp [intOf]; omega
            · rw [e1] at hst0
              have hst := Lib.hid hst0
              clear hst0
              have HA0 := fun W h => answer_end bp bq R.2.1 e1 W h
              obtain ⟨an, han⟩ : ∃ an, an = R.2.1.ans := ⟨_, rfl⟩
              rw [← han] at HA0 hE1 hE2
              have HA := Lib.hid HA0
              clear HA0 han
              have hTa : T + an ≤ limit := by have := hE1.sum; omega
              obtain ⟨M, hM⟩ : ∃ M, M = n * batch := ⟨_, rfl⟩
              have hM1 : M ≤ 64 * 1048576 := by rw [hM]; exact Nat.mul_le_mul hf3 hf2
              have hmw : IntKind.i64.wrap ((n : Int) * (batch : Int)) = (M : Int) := by
                rw [show (n : Int) * (batch : Int) = (M : Int) by rw [hM]; simp, IntKind.wrap_i64]
                omega
              have hmz : (n : Int) * (batch : Int) = (M : Int) := by rw [hM]; simp
              rw [← hM] at hE2
              clear hM
              have rlast : ∀ (w5 : World) (o : Obj) (tv : Value), tv = .int .i64 ((T + an : Nat) : Int) → Quo w5 bq bc bw batch n R.1 → PendAt w5 bp bq R.2.1 → Moves [bp, bw] (wr) w5 → ∃ (n0 T0 i0 : Nat) (l : List Nat) (ps : List (Option (Nat × Pn))) (tk : List Bool), i0 ≤ len ∧ n0 ≤ i0 ∧ (.int .i64 ((nx : Int)) : Value) = .int .i64 (n0 : Nat) ∧ tv = .int .i64 (T0 : Nat) ∧ (.int .i64 ((i : Int) + 1) : Value) = .int .i64 (i0 : Nat) ∧ Early batch n limit l ps tk T0 ∧
                  Quo ((w5.setCell ⟨w2.heap.size, k, none⟩ (.pointer none)).alloc o) bq bc bw batch n l ∧ Has ((w5.setCell ⟨w2.heap.size, k, none⟩ (.pointer none)).alloc o) w2.heap.size 32 (pvs ps) ∧ Has ((w5.setCell ⟨w2.heap.size, k, none⟩ (.pointer none)).alloc o) (w2.heap.size + 1) 4 (bvs tk) ∧ Fam ((w5.setCell ⟨w2.heap.size, k, none⟩ (.pointer none)).alloc o) w.heap.size bq ps ∧ Moves [] w ((w5.setCell ⟨w2.heap.size, k, none⟩ (.pointer none)).alloc o) := by
                intro w5 o tv htv hQ5 hP5 hm5
                have hN5 := hm5.has hNx oN
                refine ⟨nx, T + an, i + 1, R.1, ps.set k none, tk, by omega, by omega, by go_num, htv, by go_num, hE1, ?_, ?_, ?_, ?_, ?_⟩
                · exact (hQ5.off hN5 (by decide) hnb0 _).alloc o
                · exact ((hN5.put k _).of_eq (pvs_set ps k none)).alloc o
                · exact ((hm5.has hTx oT).far (p := ⟨w2.heap.size, k, none⟩) ntx _).alloc o
                · exact (hFx.step hk hm5 hQx.m hP5).finish e1 hN5 hkl o _
                · exact ((hMx.trans hm5 (fun y hy => by simp at hy; right; omega)).setNew (p := ⟨w2.heap.size, k, none⟩) hs02 _).alloc o
              have RL := Lib.hid rlast
              clear rlast
              by_cases ha : an = 0
              · have hab : ((an : Int) == 0) = true := by simp [ha]
                have hlm : (limit : Int) - ((T : Int) + (an : Int)) ≤ (M : Int) := by have := hE2 ha; omega
                go_wp2_with (first | (go_at_call 17; go_must (refine (hst.out).mono ?_; rintro e w5 ⟨rfl, hP5, hQ5, hm5⟩; simp only [Dd.val, did]; (have hN5 := hm5.has hNx oN); (have hT5 := hm5.has hTx oT); (have cN5 : w5.cell? ⟨w2.heap.size, k, none⟩ = some (.pointer (some ⟨bp, 0, none⟩)) := by rw [hN5.cell]; exact pvs_at hk); (have fN5 := hN5.frozen k); (have cT5 : w5.cell? ⟨w2.heap.size + 1, k, none⟩ = some (.bool true) := by rw [hT5.cell, bvs_at (by rw [hEx.tlen]; exact hkn), e2]); (have nl5 := hN5.lt); (have tl5 := hT5.lt))) | (go_at_call 20; refine (HA.out _ (hP5.allocEnd e1 _)).mono ?_; rintro e w' ⟨rfl, rfl⟩))
                go_roundw
                case rel => exact RL.out w5 _ (.int .i64 (T : Int)) (by simp [ha]) hQ5 hP5 hm5
                case measure => simp [intOf]; omega
              · have hab : ((an : Int) == 0) = false := by simp; omega
                go_wp2_with (first | (go_at_call 17; go_must (refine (hst.out).mono ?_; rintro e w5 ⟨rfl, hP5, hQ5, hm5⟩; simp only [Dd.val, did]; (have hN5 := hm5.has hNx oN); (have hT5 := hm5.has hTx oT); (have cN5 : w5.cell? ⟨w2.heap.size, k, none⟩ = some (.pointer (some ⟨bp, 0, none⟩)) := by rw [hN5.cell]; exact pvs_at hk); (have fN5 := hN5.frozen k); (have cT5 : w5.cell? ⟨w2.heap.size + 1, k, none⟩ = some (.bool true) := by rw [hT5.cell, bvs_at (by rw [hEx.tlen]; exact hkn), e2]); (have nl5 := hN5.lt); (have tl5 := hT5.lt))) | (go_at_call 20; refine (HA.out _ (hP5.allocEnd e1 _)).mono ?_; rintro e w' ⟨rfl, rfl⟩))
                go_roundw
                case rel => exact RL.out w5 _ (.int .i64 ((T : Int) + (an : Int))) (by go_num) hQ5 hP5 hm5
                case measure => simp [intOf]; omega
            · rw [e1] at hst0
              have hst := Lib.hid hst0
              clear hst0
              have HA := Lib.hid (fun W h => answer_end bp bq R.2.1 e1 W h)
              go_wp2_with (first | (go_at_call 17; go_must (refine (hst.out).mono ?_; rintro e w5 ⟨rfl, hP5, hQ5, hm5⟩; simp only [Dd.val, did]; (have hN5 := hm5.has hNx oN); (have hT5 := hm5.has hTx oT); (have cN5 : w5.cell? ⟨w2.heap.size, k, none⟩ = some (.pointer (some ⟨bp, 0, none⟩)) := by rw [hN5.cell]; exact pvs_at hk); (have fN5 := hN5.frozen k); (have cT5 : w5.cell? ⟨w2.heap.size + 1, k, none⟩ = some (.bool false) := by rw [hT5.cell, bvs_at (by rw [hEx.tlen]; exact hkn), e2]); (have nl5 := hN5.lt); (have tl5 := hT5.lt))) | (go_at_call 20; refine (HA.out _ (hP5.allocEnd e1 _)).mono ?_; rintro e w' ⟨rfl, rfl⟩))
              go_roundw
              case rel =>
                refine ⟨nx, T, i + 1, R.1, ps.set k none, tk, by omega, by omega, by go_num, by go_num, by go_num, hE1, ?_, ?_, ?_, ?_, ?_⟩
                · exact (hQ5.off hN5 (by decide) hnb0 _).alloc _
                · exact ((hN5.put k _).of_eq (pvs_set ps k none)).alloc _
                · exact ((hm5.has hTx oT).far (p := ⟨w2.heap.size, k, none⟩) ntx _).alloc _
                · exact (hFx.step hk hm5 hQx.m hP5).finish e1 hN5 hkl _ _
                · exact ((hMx.trans hm5 (fun y hy => by simp at hy; right; omega)).setNew (p := ⟨w2.heap.size, k, none⟩) hs02 _).alloc _
              case measure => simp [intOf]; omega
    · obtain rfl : i = len := by omega
      have hTl : (T : Int) ≤ (limit : Int) := by omega
      go_wp2_with fail
      go_ret
      exact ⟨rfl, hmr⟩
end Go.Proofs.YtigacfgoldnoiaaDoor
