/- QuotaCalls: the walk. -/
import Derived.Test.YtigacfgoldnoiaaDoorK6
namespace Go.Proofs.YtigacfgoldnoiaaDoor
open Go Go.RowKit
set_option linter.unusedVariables false
set_option linter.unusedSimpArgs false
attribute [local go_sem] World.cell?_alloc_old World.frozen?_alloc_old

set_option maxHeartbeats 2000000 in
set_option maxRecDepth 100000 in
theorem calls_bad (limit batch workers : Int) (v : Value) (w : World) (hu : Uses w) (hz : 0 < w.heap.size) (h : fitsB limit batch workers = false) :
    Calls Tryd.prog 4 #[.int .i64 limit, .int .i64 batch, .int .i64 workers, v] w fun e w' => e = .returned (.bool true) ∧ Moves [] w w' := by
  have hbg := Lib.hid (fun W hu hz => begins_any W hu hz)
  have hnw := Lib.hid (fun W => new_bad limit batch workers W h)
  have hft0 := fun W => rfits_any limit batch workers W
  rw [h] at hft0
  have hft := Lib.hid hft0
  clear h hft0
  go_enter Tryd.func4, Tryd.ntmps4
  go_wp2_with (first | (go_at_call 11; go_must (refine (hnw.out _).mono ?_; rintro e w1 ⟨rfl, hm1⟩)) | (go_at_call 12; go_must (refine (hft.out _).mono ?_; rintro e w2 ⟨rfl, rfl⟩)) | (go_at_call 13; go_must (refine (hbg.out _ (hu.moves hm1 hz (by simp)) (Nat.lt_of_lt_of_le hz hm1.size)).mono ?_; rintro e w2 ⟨rfl, hm2⟩)))
  go_ret
  exact ⟨rfl, hm1.trans hm2 (by simp)⟩

/-- What a plain call of the quota comes to: a right operation, done whole; a wrong one, refused. -/
structure Did1 (batch n : Nat) (l l2 : List Nat) (kd wk : Int) (g y : Nat) : Prop where
  good : rightB n kd wk = true → y = 0 ∧ ∃ (kn xn : Nat) (p : Pn) (fuel : Nat), kd = kn ∧ wk = xn ∧ Sim p ⟨kn, xn, 0, 0, 0, 0, false, 0⟩ ∧ p.nx.ended = false ∧ Still l p ∧ (∀ m, Loc n m p) ∧ p.nx.hand = 0 ∧ toGo n p ≤ fuel ∧ g = (qiter batch n fuel l p).2.ans ∧ l2 = (qiter batch n fuel l p).1
  bad : rightB n kd wk = false → y = 2 ∧ g = 0 ∧ l2 = l
theorem Did1.refused {batch n : Nat} {l : List Nat} {kd wk : Int} (h : rightB n kd wk = false) : Did1 batch n l l kd wk 0 2 := ⟨(fun e => by rw [h] at e; cases e), fun _ => ⟨rfl, rfl, rfl⟩⟩
theorem Did1.take {batch n : Nat} {l : List Nat} {x : Nat} (h : x < n) : Did1 batch n l (qtake batch n l x).1 1 x (qtake batch n l x).2.ans 0 :=
  ⟨(fun _ => ⟨rfl, 1, x, ⟨.look, x + 1, 0, 0, 0⟩, 5, rfl, rfl, ⟨rfl, rfl, rfl, rfl, rfl⟩, rfl, trivial, (fun m => ⟨by simp, by simp only; omega, trivial⟩), rfl, by simp [toGo], rfl, rfl⟩), (fun e => by simp [rightB] at e; omega)⟩
theorem Did1.back {batch n : Nat} {l : List Nat} {x : Nat} (h : x < n) : Did1 batch n l (qback batch n l x).1 2 x (qback batch n l x).2.ans 0 :=
  ⟨(fun _ => ⟨rfl, 2, x, ⟨.empty, x + 1, 0, 0, 0⟩, 2, rfl, rfl, ⟨rfl, rfl, rfl, rfl, rfl⟩, rfl, trivial, (fun m => ⟨by simp, by simp only; omega, trivial⟩), rfl, by simp [toGo], rfl, rfl⟩), (fun e => by simp [rightB] at e; omega)⟩
theorem Did1.left {batch n : Nat} {l : List Nat} (h : 0 < n) : Did1 batch n l (qleft batch n l).1 3 0 (qleft batch n l).2.ans 0 :=
  ⟨(fun _ => ⟨rfl, 3, 0, ⟨.sum, 1, 0, 0, 0⟩, n + 1, rfl, rfl, ⟨rfl, rfl, rfl, rfl, rfl⟩, rfl, trivial, (fun m => ⟨by simp, by simp only; omega, by simp, by simp⟩), rfl, by simp [toGo], rfl, rfl⟩), (fun e => by simp [rightB] at e)⟩
theorem Did1.inv {batch n : Nat} {l l2 : List Nat} {kd wk : Int} {g y : Nat} (h : Did1 batch n l l2 kd wk g y) (hb : 1 ≤ batch) (hl : l.length = n + 1) : l2.length = n + 1 ∧ l2.sum ≤ l.sum := by
  cases hr : rightB n kd wk with
  | true =>
    obtain ⟨_, kn, xn, p, fuel, _, _, _, _, _, hloc, hh, _, _, rfl⟩ := h.good hr
    have := qiter_inv batch n l.sum hb fuel l p (hloc _) hl (by omega)
    exact ⟨this.1, by omega⟩
  | false =>
    obtain ⟨_, _, rfl⟩ := h.bad hr
    exact ⟨hl, Nat.le_refl _⟩

def m4loop : List Bool := [false, false, false, false, false, false, false, false, true, false, false, false, true, true, true, true, true, true, true, true, true, false, false, false, false, false, false, false, false, false, false, false, false, false, false, false, false, false, false, false, false, false, false, false, false, false, true, true, true, true, true, true, true, true, true, true, true, true, true, true, true, true, true, true, true, true, true, true, true, true, true, true, true, true, true, true, true, true, true, true, true, true, true, true, true, true, true, true, true, true, true, true, true, true, true, true, true, true, true, true, true, true, true, true, true, true, true, true, true, true, true, true, true, true, true, false]
def m4cut : List Bool := [false, false, false, false, false, false, false, false, false, false, false, false, false, false, false, true, true, true, true, false, false, false, false, false, false, false, false, false, false, false, false, false, false, false, false, false, false, false, false, false, false, false, false, false, false, false, false, false, false, false, false, false, false, false, false, false, true, true, true, true, true, true, true, true, true, true, true, true, true, true, true, true, true, true, true, true, true, true, true, true, true, true, true, false, false, false, false, false, false, false, false, false, false, false, false, false, false, false, false, false, false, false, false, false, false, false, false, false, false, false, false, false, false, false, false, false]

set_option maxHeartbeats 4000000 in
set_option maxRecDepth 100000 in
theorem calls_good (limit batch n : Nat) (v : Value) (ops : List (Int × Int)) (w : World) (hv : Rdo w v ops) (hb : ops.length * 16 ≤ 140737488355328) (hu : Uses w) (hz : 0 < w.heap.size) (hf : fitsB limit batch n = true) (hf1 : limit ≤ 1099511627776) (hf2 : batch ≤ 1048576) (hf3 : n ≤ 64) :
    Calls Tryd.prog 4 #[.int .i64 limit, .int .i64 batch, .int .i64 n, v] w fun e w' => e = .returned (.bool true) ∧ Moves [] w w' := by
  have hbg := Lib.hid (fun W hu hz => begins_any W hu hz)
  have hnw := Lib.hid (fun W hu hz => new_good limit batch n W hf hf1 hf2 hf3 hu hz)
  have hce := Lib.hid (fun W => cells_any limit n W hf1 hf3)
  have hb1 : 1 ≤ batch := by have := hf; simp only [fitsB, decide_eq_true_eq] at this; omega
  have hn1 : 1 ≤ n := by have := hf; simp only [fitsB, decide_eq_true_eq] at this; omega
  clear hf
  obtain ⟨KA, kcap, rfl, hks⟩ := hv
  obtain ⟨len, hklenE⟩ : ∃ len, len = ops.length := ⟨_, rfl⟩
  rw [← hklenE] at hb hks ⊢
  have HKLEN := Lib.hid hklenE
  have HKS := Lib.hid hks
  clear hklenE hks
  go_enter Tryd.func4, Tryd.ntmps4
  go_wp2_with (first | (go_at_call 11; go_must (refine (hnw.out _ hu hz).mono ?_; rintro e w2 ⟨bq, bc, bw, rfl, gq, gc, gw, hQ, hm2⟩)) | (go_at_call 16; go_must (refine (hce.out _).mono ?_; rintro e w3 ⟨v3, rfl, hown3, hm3⟩)))
  have hs2 := hm2.size
  have hQ3 := hQ.still hm3
  refine wp_loop_mix m4loop (fun k f wr => ∃ (i : Nat) (l : List Nat), k = len - i ∧ i ≤ len ∧ f 13 = .int .i64 (i : Nat) ∧ l.length = n + 1 ∧ l.sum ≤ limit ∧ Quo wr bq bc bw batch n l ∧ wr.ownsRow w.heap.size 39 1 (f 12) (n + 1) (wvs l) ∧ Moves [] w wr) len ?_ ?_
  · exact ⟨0, limit :: List.replicate n 0, by omega, Nat.zero_le _, rfl, by simp, by simp, hQ3, own_base hown3 hs2, hm2.trans hm3 (by simp)⟩
  · rintro gk f wr hrel J1 K1 hJ1 hK1
    dsimp only [mix, m4loop]
    generalize f 13 = a13 at hrel ⊢
    generalize f 12 = a12 at hrel ⊢
    obtain ⟨i, l, rfl, hi, rfl, hl, hls, hQr, hown, hmr⟩ := hrel
    have hwr := hmr.size
    have hls2 : l.sum ≤ 1099511627776 := by omega
    by_cases hlt : i < len
    · obtain ⟨b, off, rfl, hbl, hcells⟩ := HKS.out (by omega)
      obtain ⟨q, hq⟩ : ∃ x, ops[i]? = some x := ⟨_, List.getElem?_eq_getElem (by have := HKLEN.out; omega)⟩
      obtain ⟨kd, wk⟩ := q
      have cx0 := hcells i kd wk hq
      have ck : wr.cell? ⟨b, off + i * 2, none⟩ = some (.int .u8 kd) := by rw [cell_kept hmr (by simp) hbl]; exact cx0.1
      have cw : wr.cell? ⟨b, off + (i * 2 + 1), none⟩ = some (.int .i64 wk) := by rw [cell_kept hmr (by simp) hbl]; exact cx0.2
      have cw' : wr.cell? ⟨b, off + i * 2 + 1, none⟩ = some (.int .i64 wk) := cw
      clear hcells cx0 hq
      have hi' : (i : Int) < (len : Int) := by omega
      have hownH : ∀ g, a12.ownBlock = some g → ∃ cs, Has wr g 39 cs := fun g hg => (own_has hown g hg).2
      have ownM : ∀ (wk : Int) (wx : World), Moves [bw] (wr.alloc (.cells #[.int .u8 kd, .int .i64 wk] 37)) wx → wx.ownsRow w.heap.size 39 1 a12 (n + 1) (wvs l) := fun wk wx hx =>
        own_moves (hown.alloc _) hx (fun g hg => by simp only [List.mem_cons, List.not_mem_nil, or_false]; obtain ⟨cs, h1⟩ := hownH g hg; exact h1.ne_type hQr.m (by decide))
      have movM : ∀ (wk : Int) (wx : World), Moves [bw] (wr.alloc (.cells #[.int .u8 kd, .int .i64 wk] 37)) wx → Moves [] w wx := fun wk wx hx => (hmr.alloc _).trans hx (fun y hy => by simp only [List.mem_cons, List.not_mem_nil, or_false] at hy; subst hy; right; omega)
      have bwl := hQr.m.lt
      have hXm : ∀ (wk : Int) (wx : World), Moves [bw] (wr.alloc (.cells #[.int .u8 kd, .int .i64 wk] 37)) wx → Has wx wr.heap.size 37 #[.int .u8 kd, .int .i64 wk] := fun wk wx hx => hx.has (Has.new' rfl) (by simp; omega)
      have OM := Lib.hid ownM
      have MM := Lib.hid movM
      have XM := Lib.hid hXm
      have OH := Lib.hid hownH
      clear ownM movM hXm hownH
      by_cases k4 : kd = 1 ∨ kd = 2 ∨ kd = 3
      · go_upto_block 2 with fail
        refine wp_cut_mix m4cut (fun f wx => ∃ (g y : Nat) (wk' : Int) (l2 : List Nat), f 15 = .int .i64 (g : Nat) ∧ f 16 = .int .i64 (y : Nat) ∧ Has wx wr.heap.size 37 #[.int .u8 kd, .int .i64 wk'] ∧ Did1 batch n l l2 kd wk' g y ∧ Quo wx bq bc bw batch n l2 ∧ wx.ownsRow w.heap.size 39 1 a12 (n + 1) (wvs l) ∧ Moves [] w wx) ?_ ?_
        · intro JC KC hJC hKC
          rcases k4 with rfl | rfl | rfl
          · by_cases hr : 0 ≤ wk ∧ wk < n
            · obtain ⟨x, rfl⟩ := Int.eq_ofNat_of_zero_le hr.1
              have hx : x < n := by omega
              have hT := take_good bq bc bw batch n l x _ (hQr.alloc (.cells #[.int .u8 1, .int .i64 x] 37)) hf3 hb1 hls2 hx
              have hans : (qtake batch n l x).2.ans ≤ 1 := by
                have h1 := qiter_takes batch n 5 l ⟨.look, x + 1, 0, 0, 0⟩ trivial
                have h2 := qiter_ends batch n l.sum 5 l ⟨.look, x + 1, 0, 0, 0⟩ trivial (loc_look hx) hb1 hl (by simp [Nx.hand]) (by simp [toGo])
                have h3 : (qtake batch n l x).2 = (qiter batch n 5 l ⟨.look, x + 1, 0, 0, 0⟩).2 := rfl
                rw [h3]
                generalize (qiter batch n 5 l ⟨.look, x + 1, 0, 0, 0⟩).2 = pp at h1 h2 ⊢
                obtain ⟨nx, own, saw, left, ans⟩ := pp
                cases nx <;> first | exact h1 | cases h2
              have HD := Lib.hid (Did1.take (batch := batch) (l := l) hx)
              obtain ⟨R, hR⟩ : ∃ R, R = qtake batch n l x := ⟨_, rfl⟩
              rw [← hR] at hT hans HD
              clear hR
              have hRa : R.2.ans = 0 ∨ R.2.ans = 1 := by omega
              rcases hRa with ha | ha
              · rw [ha] at hT HD
                have e0 : (((0 : Nat) : Int) == 1) = false := rfl
                rw [e0] at hT
                have HT := Lib.hid hT
                clear hT hans ha e0 hr
                go_wp2_with (go_at_call 23; go_must (refine (HT.out).mono ?_; rintro e w5 ⟨rfl, hQ5, hm5⟩))
                refine Met.intro (hJC _ _ (by rfl) ?_)
                exact ⟨0, 0, _, R.1, rfl, rfl, XM.out _ _ hm5, HD.out, hQ5, OM.out _ _ hm5, MM.out _ _ hm5⟩
              · rw [ha] at hT HD
                have e0 : (((1 : Nat) : Int) == 1) = true := rfl
                rw [e0] at hT
                have HT := Lib.hid hT
                clear hT hans ha e0 hr
                go_wp2_with (go_at_call 23; go_must (refine (HT.out).mono ?_; rintro e w5 ⟨rfl, hQ5, hm5⟩))
                refine Met.intro (hJC _ _ (by rfl) ?_)
                exact ⟨1, 0, _, R.1, rfl, rfl, XM.out _ _ hm5, HD.out, hQ5, OM.out _ _ hm5, MM.out _ _ hm5⟩
            · have HT := Lib.hid (take_bad bq bc bw batch n l wk _ (hQr.alloc (.cells #[.int .u8 1, .int .i64 wk] 37)) hf3 hr)
              have hrb : rightB n 1 wk = false := by simp [rightB]; omega
              have HD := Lib.hid (Did1.refused (batch := batch) (l := l) hrb)
              clear hr hrb
              go_wp2_with (go_at_call 23; go_must (refine (HT.out).mono ?_; rintro e w5 ⟨rfl, hm5'⟩; (have hm5 : Moves [bw] _ _ := hm5'.more (S' := [bw]) (fun x hx => by cases hx)); (have hQ5 := (hQr.alloc (.cells #[.int .u8 1, .int .i64 wk] 37)).still hm5')))
              refine Met.intro (hJC _ _ (by rfl) ?_)
              exact ⟨0, 2, _, l, rfl, rfl, XM.out _ _ hm5, HD.out, hQ5, OM.out _ _ hm5, MM.out _ _ hm5⟩
          · by_cases hr : 0 ≤ wk ∧ wk < n
            · obtain ⟨x, rfl⟩ := Int.eq_ofNat_of_zero_le hr.1
              have hx : x < n := by omega
              have hT := back_good bq bc bw batch n l x _ (hQr.alloc (.cells #[.int .u8 2, .int .i64 x] 37)) hf3 hb1 hls2 hx
              have HD := Lib.hid (Did1.back (batch := batch) (l := l) hx)
              obtain ⟨R, hR⟩ : ∃ R, R = qback batch n l x := ⟨_, rfl⟩
              rw [← hR] at hT HD
              have HT := Lib.hid hT
              clear hR hT hr
              go_wp2_with (go_at_call 24; go_must (refine (HT.out).mono ?_; rintro e w5 ⟨rfl, hQ5, hm5⟩))
              refine Met.intro (hJC _ _ (by rfl) ?_)
              exact ⟨R.2.ans, 0, _, R.1, rfl, rfl, XM.out _ _ hm5, HD.out, hQ5, OM.out _ _ hm5, MM.out _ _ hm5⟩
            · have HT := Lib.hid (back_bad bq bc bw batch n l wk _ (hQr.alloc (.cells #[.int .u8 2, .int .i64 wk] 37)) hf3 hr)
              have hrb : rightB n 2 wk = false := by simp [rightB]; omega
              have HD := Lib.hid (Did1.refused (batch := batch) (l := l) hrb)
              clear hr hrb
              go_wp2_with (go_at_call 24; go_must (refine (HT.out).mono ?_; rintro e w5 ⟨rfl, hm5'⟩; (have hm5 : Moves [bw] _ _ := hm5'.more (S' := [bw]) (fun x hx => by cases hx)); (have hQ5 := (hQr.alloc (.cells #[.int .u8 2, .int .i64 wk] 37)).still hm5')))
              refine Met.intro (hJC _ _ (by rfl) ?_)
              exact ⟨0, 2, _, l, rfl, rfl, XM.out _ _ hm5, HD.out, hQ5, OM.out _ _ hm5, MM.out _ _ hm5⟩
          · have HL := fun W hQ => left_good bq bc bw batch n l W hQ hf3 hn1 hb1 hls2
            have HD := Lib.hid (Did1.left (batch := batch) (l := l) hn1)
            obtain ⟨R, hR⟩ : ∃ R, R = qleft batch n l := ⟨_, rfl⟩
            rw [← hR] at HL HD
            have HT := Lib.hid HL
            clear hR HL
            go_wp2_with (go_at_call 25; go_must (refine (HT.out _ (hQr.alloc _)).mono ?_; rintro e w5 ⟨rfl, hQ5, hm5⟩))
            refine Met.intro (hJC _ _ (by rfl) ?_)
            exact ⟨R.2.ans, 0, _, R.1, rfl, rfl, XM.out _ _ hm5, HD.out, hQ5, OM.out _ _ hm5, MM.out _ _ hm5⟩
        · intro f wc hcut
          dsimp only [mix, m4cut]
          generalize f 15 = a15 at hcut ⊢
          generalize f 16 = a16 at hcut ⊢
          obtain ⟨g, y, wk', l2, rfl, rfl, hX, hD, hQ5, hown5, hm5⟩ := hcut
          have hXc := hX.cell
          have hinv := hD.inv hb1 hl
          have hRt := right_any n kd wk' wc
          cases hr : rightB n kd wk' with
          | false =>
            obtain ⟨rfl, rfl, rfl⟩ := hD.bad hr
            rw [hr] at hRt
            have HRT := Lib.hid hRt
            clear hRt hr
            go_wp2_with (go_at_call 15; go_must (refine (HRT.out).mono ?_; rintro e w6 ⟨rfl, hm6⟩))
            refine Handed.intro (len - (i + 1)) (by omega) (hJ1 _ _ _ (by rfl) ?_)
            exact ⟨i + 1, _, rfl, by omega, rfl, hl, hls, hQ5.still hm6, own_moves hown5 hm6 (fun _ _ => by simp), hm5.trans hm6 (by simp)⟩
          | true =>
            obtain ⟨rfl, kn, xn, p, fuel, rfl, rfl, hSim, hne, hst, hloc, hh, hfuel, hg, hl2⟩ := hD.good hr
            rw [hr] at hRt
            have HRT := Lib.hid hRt
            obtain ⟨gc, ccap, ec, hgcb, hgcl, _, _, _⟩ := own_at hown5 (by omega)
            have hRds := Rds.of_own hown5 (by omega) hl
            have hW0 := fun W' (hm : Moves [] wc W') => rwhole_any batch n l.sum fuel l kn xn p a12 W' hSim (hRds.moves hm (fun _ _ => by simp)) hl hf3 hb1 hf2 hls2 hst (hloc _) (by omega) hfuel hne
            rw [← hg, ← hl2] at hW0
            have HW := Lib.hid hW0
            have hinv1 := hinv.1
            have hinv2 := hinv.2
            have HI1 := Lib.hid hinv1
            have hAl := Lib.hid (fun W' hQ => all_any bq bc bw batch n l2 W' hQ hf3)
            have hgg : ((g : Int) != (g : Int)) = false := by simp
            clear hRt hr hW0 hg hl2 hSim hst hloc hh hfuel hne hRds hinv hinv1 hD ec
            go_wp2_with (first
              | (go_at_call 15; go_must (refine (HRT.out).mono ?_; rintro e w6 ⟨rfl, hm6⟩; (have X6 := hm6.has hX (by simp)); (have X6c := X6.cell)))
              | (go_at_call 26; go_must (refine (HW.out _ hm6).mono ?_; rintro e w7 ⟨v7, rfl, hown7, hm7⟩))
              | (go_at_call 22; go_must (refine (hAl.out _ ((hQ5.still hm6).still hm7)).mono ?_; rintro e w8 ⟨v8, rfl, hown8, hm8⟩; (have hwd := words_any v8 v7 l2 l2 _ (Rds.of_own hown8 (by omega) HI1.out) (Rds.of_own (own_moves hown7 hm8 (fun _ _ => by simp)) (by omega) HI1.out) rfl (by rw [HI1.out]; omega)); (have hdd : decide (l2 = l2) = true := by simp); (rw [hdd] at hwd); (have HWD := Lib.hid hwd); clear hwd hdd))
              | (go_at_call 21; go_must (refine (HWD.out).mono ?_; rintro e w9 ⟨rfl, hm9⟩)))
            refine Handed.intro (len - (i + 1)) (by omega) (hJ1 _ _ _ (by rfl) ?_)
            have hs7 : w.heap.size ≤ w6.heap.size := Nat.le_trans hm5.size hm6.size
            exact ⟨i + 1, l2, rfl, by omega, rfl, HI1.out, by omega, (((hQ5.still hm6).still hm7).still hm8).still hm9, own_moves (own_moves (own_base hown7 hs7) hm8 (fun _ _ => by simp)) hm9 (fun _ _ => by simp), (((hm5.trans hm6 (by simp)).trans hm7 (by simp)).trans hm8 (by simp)).trans hm9 (by simp)⟩
      · have e1 : (kd == 1) = false := by simp; omega
        have e2 : (kd == 2) = false := by simp; omega
        have e3 : (kd == 3) = false := by simp; omega
        clear k4
        go_wp2_with fail
        refine Handed.intro (len - (i + 1)) (by omega) (hJ1 _ _ _ (by rfl) ?_)
        exact ⟨i + 1, l, rfl, by omega, rfl, hl, hls, hQr.alloc _, hown.alloc _, hmr.alloc _⟩
    · obtain rfl : i = len := by omega
      go_wp2_with (go_at_call 13; go_must (refine (hbg.out _ (hu.moves hmr hz (by simp)) (Nat.lt_of_lt_of_le hz hmr.size)).mono ?_; rintro e w2 ⟨rfl, hm2⟩))
      go_ret
      exact ⟨rfl, hmr.trans hm2 (by simp)⟩
end Go.Proofs.YtigacfgoldnoiaaDoor
