/- labels.read (printed by a program of this session: gen/labelsHM.py). -/
import Derived.Test.YtogegkfefpgbcaaDoorZKPLx0
import Derived.Test.YtogegkfefpgbcaaDoorZKQ1
import Derived.Test.YtogegkfefpgbcaaDoorZKQ2
import Derived.Test.YtogegkfefpgbcaaDoorZKQ3
import Derived.Test.YtogegkfefpgbcaaDoorZKQ4
import Derived.Test.YtogegkfefpgbcaaDoorZKQ5
import Derived.Test.YtogegkfefpgbcaaDoorZKHL
namespace Go.Proofs.YtogegkfefpgbcaaDoor.PL
open Go.RowKit Go.Proofs.YtogegkfefpgbcaaDoorW.PrintWords Go.Proofs.YtogegkfefpgbcaaDoorW.PrintLast Go.Proofs.YtogegkfefpgbcaaDoorW.PrintMore
set_option linter.unusedVariables false
set_option linter.unusedSimpArgs false
attribute [local go_sem] World.cell?_alloc_old World.frozen?_alloc_old

/-- read's answer: a reader of its own. -/
def ReadAns (s : ByteArray) (m : Bool) (w : World) (r : Int × List S36 × Int × Int) (e : Ending) (w' : World) : Prop :=
  ∃ g v', e = .returned (.pointer (some ⟨g, 0, none⟩)) ∧ IsS71 w w' g s r.1 m v' r.2.2.1 r.2.2.2 ∧ Kd.R k36 36 w' w.heap.size (fun _ => True) v' r.2.1 ∧ Below w.heap.size w w'
set_option maxHeartbeats 4000000 in
set_option maxRecDepth 100000 in
theorem read_calls (s : ByteArray) (m : Bool) (w : World) (hG : G w) (hs : s.size ≤ 140737488355000) (r : Int × List S36 × Int × Int) (hr : readF s m = some r) :
    Calls Tryd.prog 49 #[.string s, .bool m] w fun e w' => ReadAns s m w r e w' := by
  have T := take_f s 0 m (.slice none 0 0) 0 0 123 (by omega) (by omega)
  have hTl := takeP_le s 0 0 0 123 (by omega)
  unfold readF at hr
  obtain ⟨⟨tb, ti, tw, ta⟩, hT⟩ : ∃ x, takeP s 0 0 0 123 = x := ⟨_, rfl⟩
  rw [hT] at T hr hTl
  dsimp only at T hr hTl
  have HT := Lib.hid T
  have HS := Lib.hid hs
  have HH1 := Lib.hid (here_g s ti m (.slice none 0 0) tw ta hTl.1)
  clear T hT
  cases tb
  · rw [if_neg (by simp)] at hr
    cases hr
    clear hs hTl
    go_enter Tryd.func49, Tryd.ntmps49
    go_wp2_with (first | (go_at_call 79; (with_reducible refine (labels_reader_take.calls w.heap.size s 0 m (.slice none 0 0) 0 0 123 false s ti m (.slice none 0 0) tw ta w _ ?side1 ?side2 HT.out).mono ?_); (case side1 => exact IsS71.new w w s 0 m (.slice none 0 0) 0 0 (Below.refl _ _)); (case side2 => exact below_alloc (Below.refl _ _) _); rintro e w1 ⟨rfl, hi3, hb3, hk3⟩; have HI1 := Lib.hid hi3; have HB1 := Lib.hid hb3; have HR1 := Lib.hid (Kd.R_nil k36 36 w1 w.heap.size (fun _ => True)); have hge := Lib.hid hi3.2; clear hi3 hb3 hk3; have k1_1 := cellS71_1 HI1.out.1; have k4_1 := cellS71_4 HI1.out.1; have z1_1 := blk_frozen HI1.out.1 1))
    first | ((try simp only [Exit.inBlock, Exit.then]); refine bodyPost_ret (results_tmp rfl _ _ _) rfl ?_) | go_end0
    refine ⟨w.heap.size, _, rfl, ?zzA, HR1.out, ?zzC⟩
    case zzA => repeat (first | (with_reducible first | exact HI1.out | apply IsS71.alloc | apply IsS71.drewN | apply IsS71.drew | apply IsS71.set_1))
    case zzC => repeat (first | (with_reducible first | exact HB1.out | apply below_alloc | apply pw_below_drewN | apply below_drew1 | refine below_set ?_ hge.out))
  · rw [if_pos rfl] at hr
    by_cases h125 : hereB s ti = 125
    · have h9 : (hereB s ti == 125) = true := beq_iff_eq.mpr h125
      have hti := hereB_lt h125 (by decide)
      have iw1 : IntKind.i64.wrap (ti + 1) = ti + 1 := IntWalk.i64_in _ (by omega)
      rw [if_pos h125] at hr
      have HRR := Lib.hid (Option.some.inj hr)
      clear hr h125 hti hs
      go_enter Tryd.func49, Tryd.ntmps49
      by_cases hw : tw = 0
      · by_cases hlt : ti + 1 < (s.size : Int)
        · have hw9 : (tw == 0) = true := beq_iff_eq.mpr hw
          have hl9 : decide (ti + 1 < (s.size : Int)) = true := decide_eq_true hlt
          have hr9 := HRR.out
          unfold restF at hr9
          rw [if_pos ⟨hw, hlt⟩] at hr9
          dsimp only at hr9
          have HF0 := fail_f s (ti + 1) m (.slice none 0 0) tw ta 120 (ti + 1)
          obtain ⟨⟨f1, f2⟩, hf⟩ : ∃ x, failP tw ta 120 (ti + 1) = x := ⟨_, rfl⟩
          rw [hf] at HF0 hr9
          have HF := Lib.hid HF0
          subst hr9
          clear HF0 hf hw hlt
          go_wp2_with (first | (go_at_call 79; (with_reducible refine (labels_reader_take.calls w.heap.size s 0 m (.slice none 0 0) 0 0 123 true s ti m (.slice none 0 0) tw ta w _ ?side1 ?side2 HT.out).mono ?_); (case side1 => exact IsS71.new w w s 0 m (.slice none 0 0) 0 0 (Below.refl _ _)); (case side2 => exact below_alloc (Below.refl _ _) _); rintro e w1 ⟨rfl, hi3, hb3, hk3⟩; have HI1 := Lib.hid hi3; have HB1 := Lib.hid hb3; have HR1 := Lib.hid (Kd.R_nil k36 36 w1 w.heap.size (fun _ => True)); have hge := Lib.hid hi3.2; clear hi3 hb3 hk3; have k1_1 := cellS71_1 HI1.out.1; have k4_1 := cellS71_4 HI1.out.1; have z1_1 := blk_frozen HI1.out.1 1) | (go_at_call 80; (with_reducible refine (labels_reader_here.calls w.heap.size s ti m (.slice none 0 0) tw ta (hereB s ti) (decide (ti < (s.size : Int))) s ti m (.slice none 0 0) tw ta w _ ?side1 ?side2 HH1.out).mono ?_); (case side1 => repeat (first | (with_reducible first | exact HI1.out | apply IsS71.alloc | apply IsS71.drewN | apply IsS71.drew | apply IsS71.set_1))); (case side2 => repeat (first | (with_reducible first | exact HB1.out | apply below_alloc | apply pw_below_drewN | apply below_drew1 | refine below_set ?_ hge.out))); rintro e w2 ⟨rfl, hi3, hb3, hk3⟩; have HI2 := Lib.hid hi3; have HB2 := Lib.hid hb3; have HR2 := Lib.hid (R_keepS HR1.out HI1.out hk3); clear hi3 hb3 hk3; have k1_2 := cellS71_1 HI2.out.1; have k4_2 := cellS71_4 HI2.out.1; have z1_2 := blk_frozen HI2.out.1 1) | (go_at_call 82; (with_reducible refine (labels_reader_fail.calls w.heap.size s (ti + 1) m (.slice none 0 0) tw ta 120 ((ti + 1)) s (ti + 1) m (.slice none 0 0) f1 f2 w _ ?side1 ?side2 HF.out).mono ?_); (case side1 => repeat (first | (with_reducible first | exact HI2.out | apply IsS71.alloc | apply IsS71.drewN | apply IsS71.drew | apply IsS71.set_1))); (case side2 => repeat (first | (with_reducible first | exact HB2.out | apply below_alloc | apply pw_below_drewN | apply below_drew1 | refine below_set ?_ hge.out))); rintro e w99 ⟨rfl, hi3, hb3, hk3⟩; have HI99 := Lib.hid hi3; have HB99 := Lib.hid hb3; have HR99 := Lib.hid (R_keepS (R_setS HR2.out HI2.out) (IsS71.set_1 HI2.out (ti + 1)) hk3); clear hi3 hb3 hk3; have k1_99 := cellS71_1 HI99.out.1; have k4_99 := cellS71_4 HI99.out.1; have z1_99 := blk_frozen HI99.out.1 1))
          first | ((try simp only [Exit.inBlock, Exit.then]); refine bodyPost_ret (results_tmp rfl _ _ _) rfl ?_) | go_end0
          refine ⟨w.heap.size, _, rfl, ?zzA, HR99.out, ?zzC⟩
          case zzA => repeat (first | (with_reducible first | exact HI99.out | apply IsS71.alloc | apply IsS71.drewN | apply IsS71.drew | apply IsS71.set_1))
          case zzC => repeat (first | (with_reducible first | exact HB99.out | apply below_alloc | apply pw_below_drewN | apply below_drew1 | refine below_set ?_ hge.out))
        · have hw9 : (tw == 0) = true := beq_iff_eq.mpr hw
          have hl9 : decide (ti + 1 < (s.size : Int)) = false := decide_eq_false hlt
          have hr9 := HRR.out
          unfold restF at hr9
          rw [if_neg (fun h => hlt h.2)] at hr9
          subst hr9
          clear hw hlt
          go_wp2_with (first | (go_at_call 79; (with_reducible refine (labels_reader_take.calls w.heap.size s 0 m (.slice none 0 0) 0 0 123 true s ti m (.slice none 0 0) tw ta w _ ?side1 ?side2 HT.out).mono ?_); (case side1 => exact IsS71.new w w s 0 m (.slice none 0 0) 0 0 (Below.refl _ _)); (case side2 => exact below_alloc (Below.refl _ _) _); rintro e w1 ⟨rfl, hi3, hb3, hk3⟩; have HI1 := Lib.hid hi3; have HB1 := Lib.hid hb3; have HR1 := Lib.hid (Kd.R_nil k36 36 w1 w.heap.size (fun _ => True)); have hge := Lib.hid hi3.2; clear hi3 hb3 hk3; have k1_1 := cellS71_1 HI1.out.1; have k4_1 := cellS71_4 HI1.out.1; have z1_1 := blk_frozen HI1.out.1 1) | (go_at_call 80; (with_reducible refine (labels_reader_here.calls w.heap.size s ti m (.slice none 0 0) tw ta (hereB s ti) (decide (ti < (s.size : Int))) s ti m (.slice none 0 0) tw ta w _ ?side1 ?side2 HH1.out).mono ?_); (case side1 => repeat (first | (with_reducible first | exact HI1.out | apply IsS71.alloc | apply IsS71.drewN | apply IsS71.drew | apply IsS71.set_1))); (case side2 => repeat (first | (with_reducible first | exact HB1.out | apply below_alloc | apply pw_below_drewN | apply below_drew1 | refine below_set ?_ hge.out))); rintro e w2 ⟨rfl, hi3, hb3, hk3⟩; have HI2 := Lib.hid hi3; have HB2 := Lib.hid hb3; have HR2 := Lib.hid (R_keepS HR1.out HI1.out hk3); clear hi3 hb3 hk3; have k1_2 := cellS71_1 HI2.out.1; have k4_2 := cellS71_4 HI2.out.1; have z1_2 := blk_frozen HI2.out.1 1))
          first | ((try simp only [Exit.inBlock, Exit.then]); refine bodyPost_ret (results_tmp rfl _ _ _) rfl ?_) | go_end0
          refine ⟨w.heap.size, _, rfl, ?zzA, (R_setS HR2.out HI2.out), ?zzC⟩
          case zzA => repeat (first | (with_reducible first | exact HI2.out | apply IsS71.alloc | apply IsS71.drewN | apply IsS71.drew | apply IsS71.set_1))
          case zzC => repeat (first | (with_reducible first | exact HB2.out | apply below_alloc | apply pw_below_drewN | apply below_drew1 | refine below_set ?_ hge.out))
      · have hw9 : (tw == 0) = false := beq_eq_false_iff_ne.mpr hw
        have hr9 := HRR.out
        unfold restF at hr9
        rw [if_neg (fun h => hw h.1)] at hr9
        subst hr9
        clear hw
        go_wp2_with (first | (go_at_call 79; (with_reducible refine (labels_reader_take.calls w.heap.size s 0 m (.slice none 0 0) 0 0 123 true s ti m (.slice none 0 0) tw ta w _ ?side1 ?side2 HT.out).mono ?_); (case side1 => exact IsS71.new w w s 0 m (.slice none 0 0) 0 0 (Below.refl _ _)); (case side2 => exact below_alloc (Below.refl _ _) _); rintro e w1 ⟨rfl, hi3, hb3, hk3⟩; have HI1 := Lib.hid hi3; have HB1 := Lib.hid hb3; have HR1 := Lib.hid (Kd.R_nil k36 36 w1 w.heap.size (fun _ => True)); have hge := Lib.hid hi3.2; clear hi3 hb3 hk3; have k1_1 := cellS71_1 HI1.out.1; have k4_1 := cellS71_4 HI1.out.1; have z1_1 := blk_frozen HI1.out.1 1) | (go_at_call 80; (with_reducible refine (labels_reader_here.calls w.heap.size s ti m (.slice none 0 0) tw ta (hereB s ti) (decide (ti < (s.size : Int))) s ti m (.slice none 0 0) tw ta w _ ?side1 ?side2 HH1.out).mono ?_); (case side1 => repeat (first | (with_reducible first | exact HI1.out | apply IsS71.alloc | apply IsS71.drewN | apply IsS71.drew | apply IsS71.set_1))); (case side2 => repeat (first | (with_reducible first | exact HB1.out | apply below_alloc | apply pw_below_drewN | apply below_drew1 | refine below_set ?_ hge.out))); rintro e w2 ⟨rfl, hi3, hb3, hk3⟩; have HI2 := Lib.hid hi3; have HB2 := Lib.hid hb3; have HR2 := Lib.hid (R_keepS HR1.out HI1.out hk3); clear hi3 hb3 hk3; have k1_2 := cellS71_1 HI2.out.1; have k4_2 := cellS71_4 HI2.out.1; have z1_2 := blk_frozen HI2.out.1 1))
        first | ((try simp only [Exit.inBlock, Exit.then]); refine bodyPost_ret (results_tmp rfl _ _ _) rfl ?_) | go_end0
        refine ⟨w.heap.size, _, rfl, ?zzA, (R_setS HR2.out HI2.out), ?zzC⟩
        case zzA => repeat (first | (with_reducible first | exact HI2.out | apply IsS71.alloc | apply IsS71.drewN | apply IsS71.drew | apply IsS71.set_1))
        case zzC => repeat (first | (with_reducible first | exact HB2.out | apply below_alloc | apply pw_below_drewN | apply below_drew1 | refine below_set ?_ hge.out))

    · have h9 : (hereB s ti == 125) = false := beq_eq_false_iff_ne.mpr h125
      rw [if_neg h125] at hr
      obtain ⟨q, hq, hrr⟩ := Option.map_eq_some_iff.1 hr
      obtain ⟨r0, ho, hL⟩ := Option.bind_eq_some_iff.1 hq
      have hle := oneF_le s ti m [] tw ta r0 hTl.1 hTl.2 ho
      obtain ⟨i1, l1, w1_, a1⟩ := r0
      dsimp only at hle hL
      have HO := Lib.hid (fun v wx hI hR hB => one_calls w.heap.size s ti m v [] tw ta w wx hI hR hB hG hTl.1 hTl.2 hs (by simp) _ ho)
      have HL := Lib.hid hL
      have HRR0 := Lib.hid hrr
      have HH2 := Lib.hid (fun v => here_g s i1 m v w1_ a1 (by omega))
      have HLE := Lib.hid hle
      have HTL := Lib.hid hTl
      clear hr hq ho hL hrr h125 hs hle hTl
      go_enter Tryd.func49, Tryd.ntmps49
      go_wp2_with (first | (go_at_call 79; (with_reducible refine (labels_reader_take.calls w.heap.size s 0 m (.slice none 0 0) 0 0 123 true s ti m (.slice none 0 0) tw ta w _ ?side1 ?side2 HT.out).mono ?_); (case side1 => exact IsS71.new w w s 0 m (.slice none 0 0) 0 0 (Below.refl _ _)); (case side2 => exact below_alloc (Below.refl _ _) _); rintro e w1 ⟨rfl, hi3, hb3, hk3⟩; have HI1 := Lib.hid hi3; have HB1 := Lib.hid hb3; have HR1 := Lib.hid (Kd.R_nil k36 36 w1 w.heap.size (fun _ => True)); have hge := Lib.hid hi3.2; clear hi3 hb3 hk3; have k1_1 := cellS71_1 HI1.out.1; have k4_1 := cellS71_4 HI1.out.1; have z1_1 := blk_frozen HI1.out.1 1) | (go_at_call 80; (with_reducible refine (labels_reader_here.calls w.heap.size s ti m (.slice none 0 0) tw ta (hereB s ti) (decide (ti < (s.size : Int))) s ti m (.slice none 0 0) tw ta w _ ?side1 ?side2 HH1.out).mono ?_); (case side1 => repeat (first | (with_reducible first | exact HI1.out | apply IsS71.alloc | apply IsS71.drewN | apply IsS71.drew | apply IsS71.set_1))); (case side2 => repeat (first | (with_reducible first | exact HB1.out | apply below_alloc | apply pw_below_drewN | apply below_drew1 | refine below_set ?_ hge.out))); rintro e w2 ⟨rfl, hi3, hb3, hk3⟩; have HI2 := Lib.hid hi3; have HB2 := Lib.hid hb3; have HR2 := Lib.hid (R_keepS HR1.out HI1.out hk3); clear hi3 hb3 hk3; have k1_2 := cellS71_1 HI2.out.1; have k4_2 := cellS71_4 HI2.out.1; have z1_2 := blk_frozen HI2.out.1 1) | (go_at_call 81; (with_reducible refine (HO.out (.slice none 0 0) _ ?side1 ?side2 ?side3).mono ?_); (case side1 => repeat (first | (with_reducible first | exact HI2.out | apply IsS71.alloc | apply IsS71.drewN | apply IsS71.drew | apply IsS71.set_1))); (case side2 => exact HR2.out); (case side3 => repeat (first | (with_reducible first | exact HB2.out | apply below_alloc | apply pw_below_drewN | apply below_drew1 | refine below_set ?_ hge.out))); rintro e w3 ⟨rfl, v3, hi3, hr3, hb3⟩; have HI3 := Lib.hid hi3; have HB3 := Lib.hid hb3; have HR3 := Lib.hid hr3; clear hi3 hb3 hr3; have k1_3 := cellS71_1 HI3.out.1; have k4_3 := cellS71_4 HI3.out.1; have z1_3 := blk_frozen HI3.out.1 1) | (go_at_call 80; (with_reducible refine (labels_reader_here.calls w.heap.size s i1 m v3 w1_ a1 (hereB s i1) (decide (i1 < (s.size : Int))) s i1 m v3 w1_ a1 w _ ?side1 ?side2 (HH2.out _)).mono ?_); (case side1 => repeat (first | (with_reducible first | exact HI3.out | apply IsS71.alloc | apply IsS71.drewN | apply IsS71.drew | apply IsS71.set_1))); (case side2 => repeat (first | (with_reducible first | exact HB3.out | apply below_alloc | apply pw_below_drewN | apply below_drew1 | refine below_set ?_ hge.out))); rintro e w4 ⟨rfl, hi3, hb3, hk3⟩; have HI4 := Lib.hid hi3; have HB4 := Lib.hid hb3; have HR4 := Lib.hid (R_keepS HR3.out HI3.out hk3); clear hi3 hb3 hk3; have k1_4 := cellS71_1 HI4.out.1; have k4_4 := cellS71_4 HI4.out.1; have z1_4 := blk_frozen HI4.out.1 1))

      go_loopg [8] (s.size + 2) (fun n u wr => ∃ (i : Int) (l : List S36) (wy at_ : Int) (v : Value), u = .int .u8 (hereB s i) ∧ 0 ≤ i ∧ i ≤ s.size ∧ Hid (readL s m n i l wy at_ = some q) ∧ Hid (IsS71 w wr w.heap.size s i m v wy at_) ∧ Hid (Kd.R k36 36 wr w.heap.size (fun _ => True) v l) ∧ Hid (Below w.heap.size w wr) ∧ Hid (l.length ≤ 33) ∧ Hid (wy = 0 → l.length ≤ 32))
      case atStart => exact ⟨i1, l1, w1_, a1, _, rfl, by have := HLE.out; have := HTL.out; omega, by have := HLE.out; omega, HL, HI4, HR4, HB4, Lib.hid (by have := HLE.out.2.2.1; simp at this; omega), Lib.hid (fun _ => by have := HLE.out.2.2.1; simp at this; omega)⟩
      case round =>
        obtain ⟨i, l, wy, at_, v, rfl, hi0, hi1, hL5, HI5, HR5, HB5, HLN, HLZ⟩ := hrel
        have k1_5 := cellS71_1 HI5.out.1
        have k4_5 := cellS71_4 HI5.out.1
        have z1_5 := blk_frozen HI5.out.1 1
        by_cases hc : wy = 0 ∧ hereB s i = 44
        · obtain ⟨rfl, hc4⟩ := hc
          have hlt := hereB_lt hc4 (by decide)
          have iw1 : IntKind.i64.wrap (i + 1) = i + 1 := IntWalk.i64_in _ (by have := HS.out; omega)
          have hc9 : (hereB s i == 44) = true := beq_iff_eq.mpr hc4
          cases gk with
          | zero => exact absurd hL5.out (by simp [readL])
          | succ gk =>
            have hL6 := hL5.out
            simp only [readL] at hL6
            rw [if_pos ⟨trivial, hc4⟩] at hL6
            cases ho : oneF s (i + 1) m l 0 at_ with
            | none => rw [ho] at hL6; cases hL6
            | some r2 =>
              rw [ho] at hL6
              have hle2 := oneF_le s (i + 1) m l 0 at_ r2 (by omega) (by omega) ho
              obtain ⟨i6, l6, w6_, a6⟩ := r2
              dsimp only at hle2 hL6
              have HO6 := Lib.hid (fun wx hI hR hB => one_calls w.heap.size s (i + 1) m v l 0 at_ w wx hI hR hB hG (by omega) (by omega) HS.out (by have := HLN.out; omega) _ ho)
              have HL6 := Lib.hid hL6
              have HH6 := Lib.hid (fun v => here_g s i6 m v w6_ a6 (by omega))
              have HLE6 := Lib.hid hle2
              clear ho hL6 hle2 hL5 hc4
              go_wp2_with (first | (go_at_call 81; (with_reducible refine (HO6.out _ ?side1 ?side2 ?side3).mono ?_); (case side1 => repeat (first | (with_reducible first | exact HI5.out | apply IsS71.alloc | apply IsS71.drewN | apply IsS71.drew | apply IsS71.set_1))); (case side2 => exact R_setS HR5.out HI5.out); (case side3 => repeat (first | (with_reducible first | exact HB5.out | apply below_alloc | apply pw_below_drewN | apply below_drew1 | refine below_set ?_ hge.out))); rintro e w6 ⟨rfl, v6, hi3, hr3, hb3⟩; have HI6 := Lib.hid hi3; have HB6 := Lib.hid hb3; have HR6 := Lib.hid hr3; clear hi3 hb3 hr3; have k1_6 := cellS71_1 HI6.out.1; have k4_6 := cellS71_4 HI6.out.1; have z1_6 := blk_frozen HI6.out.1 1) | (go_at_call 80; (with_reducible refine (labels_reader_here.calls w.heap.size s i6 m v6 w6_ a6 (hereB s i6) (decide (i6 < (s.size : Int))) s i6 m v6 w6_ a6 w _ ?side1 ?side2 (HH6.out _)).mono ?_); (case side1 => repeat (first | (with_reducible first | exact HI6.out | apply IsS71.alloc | apply IsS71.drewN | apply IsS71.drew | apply IsS71.set_1))); (case side2 => repeat (first | (with_reducible first | exact HB6.out | apply below_alloc | apply pw_below_drewN | apply below_drew1 | refine below_set ?_ hge.out))); rintro e w7 ⟨rfl, hi3, hb3, hk3⟩; have HI7 := Lib.hid hi3; have HB7 := Lib.hid hb3; have HR7 := Lib.hid (R_keepS HR6.out HI6.out hk3); clear hi3 hb3 hk3; have k1_7 := cellS71_1 HI7.out.1; have k4_7 := cellS71_4 HI7.out.1; have z1_7 := blk_frozen HI7.out.1 1))
              go_roundg gk
              case measure => omega
              case rel => exact ⟨i6, l6, w6_, a6, _, rfl, by have := HLE6.out; omega, by have := HLE6.out; omega, HL6, HI7, HR7, HB7, Lib.hid (by have := HLE6.out; have := HLZ.out (by trivial); omega), Lib.hid (fun h => by have := HLE6.out; have := HLZ.out (by trivial); have := HLE6.out.2.2.2 h; omega)⟩
        · have hq5 : (i, l, wy, at_) = q := by
            have h := hL5.out
            cases gk with
            | zero => simp [readL] at h
            | succ gk => simp only [readL] at h; rw [if_neg hc] at h; exact Option.some.inj h
          subst hq5
          by_cases hw5 : wy = 0
          · subst hw5
            have hc9 : (hereB s i == 44) = false := beq_eq_false_iff_ne.mpr (fun e => hc ⟨rfl, e⟩)
            have T2 := take_f s i m v 0 at_ 125 hi0 (by have := HS.out; omega)
            have hRR := HRR0.out
            unfold closeF at hRR
            dsimp only at hRR
            rw [if_pos rfl] at hRR
            obtain ⟨⟨tb2, ti2, tw2, ta2⟩, hT2⟩ : ∃ x, takeP s i 0 at_ 125 = x := ⟨_, rfl⟩
            rw [hT2] at T2 hRR
            dsimp only at T2 hRR
            have HT2 := Lib.hid T2
            have HRR := Lib.hid hRR
            clear T2 hT2 hRR hc hL5

            by_cases hw : tw2 = 0
            · by_cases hlt : ti2 < (s.size : Int)
              · have hw9 : (tw2 == 0) = true := beq_iff_eq.mpr hw
                have hl9 : decide (ti2 < (s.size : Int)) = true := decide_eq_true hlt
                have hr9 := HRR.out
                unfold restF at hr9
                rw [if_pos ⟨hw, hlt⟩] at hr9
                dsimp only at hr9
                have HF0 := fail_f s (ti2) m v tw2 ta2 120 (ti2)
                obtain ⟨⟨f1, f2⟩, hf⟩ : ∃ x, failP tw2 ta2 120 (ti2) = x := ⟨_, rfl⟩
                rw [hf] at HF0 hr9
                have HF := Lib.hid HF0
                subst hr9
                clear HF0 hf hw hlt
                go_wp2_with (first | (go_at_call 79; (with_reducible refine (labels_reader_take.calls w.heap.size s i m v 0 at_ 125 tb2 s ti2 m v tw2 ta2 w _ ?side1 ?side2 HT2.out).mono ?_); (case side1 => repeat (first | (with_reducible first | exact HI5.out | apply IsS71.alloc | apply IsS71.drewN | apply IsS71.drew | apply IsS71.set_1))); (case side2 => repeat (first | (with_reducible first | exact HB5.out | apply below_alloc | apply pw_below_drewN | apply below_drew1 | refine below_set ?_ hge.out))); rintro e w8 ⟨rfl, hi3, hb3, hk3⟩; have HI8 := Lib.hid hi3; have HB8 := Lib.hid hb3; have HR8 := Lib.hid (R_keepS HR5.out HI5.out hk3); clear hi3 hb3 hk3; have k1_8 := cellS71_1 HI8.out.1; have k4_8 := cellS71_4 HI8.out.1; have z1_8 := blk_frozen HI8.out.1 1) | (go_at_call 82; (with_reducible refine (labels_reader_fail.calls w.heap.size s (ti2) m v tw2 ta2 120 ((ti2)) s (ti2) m v f1 f2 w _ ?side1 ?side2 HF.out).mono ?_); (case side1 => repeat (first | (with_reducible first | exact HI8.out | apply IsS71.alloc | apply IsS71.drewN | apply IsS71.drew | apply IsS71.set_1))); (case side2 => repeat (first | (with_reducible first | exact HB8.out | apply below_alloc | apply pw_below_drewN | apply below_drew1 | refine below_set ?_ hge.out))); rintro e w99 ⟨rfl, hi3, hb3, hk3⟩; have HI99 := Lib.hid hi3; have HB99 := Lib.hid hb3; have HR99 := Lib.hid (R_keepS HR8.out HI8.out hk3); clear hi3 hb3 hk3; have k1_99 := cellS71_1 HI99.out.1; have k4_99 := cellS71_4 HI99.out.1; have z1_99 := blk_frozen HI99.out.1 1))
                first | ((try simp only [Exit.inBlock, Exit.then]); refine bodyPost_ret (results_tmp rfl _ _ _) rfl ?_) | go_end0
                refine ⟨w.heap.size, _, rfl, ?zzA, HR99.out, ?zzC⟩
                case zzA => repeat (first | (with_reducible first | exact HI99.out | apply IsS71.alloc | apply IsS71.drewN | apply IsS71.drew | apply IsS71.set_1))
                case zzC => repeat (first | (with_reducible first | exact HB99.out | apply below_alloc | apply pw_below_drewN | apply below_drew1 | refine below_set ?_ hge.out))
              · have hw9 : (tw2 == 0) = true := beq_iff_eq.mpr hw
                have hl9 : decide (ti2 < (s.size : Int)) = false := decide_eq_false hlt
                have hr9 := HRR.out
                unfold restF at hr9
                rw [if_neg (fun h => hlt h.2)] at hr9
                subst hr9
                clear hw hlt
                go_wp2_with (first | (go_at_call 79; (with_reducible refine (labels_reader_take.calls w.heap.size s i m v 0 at_ 125 tb2 s ti2 m v tw2 ta2 w _ ?side1 ?side2 HT2.out).mono ?_); (case side1 => repeat (first | (with_reducible first | exact HI5.out | apply IsS71.alloc | apply IsS71.drewN | apply IsS71.drew | apply IsS71.set_1))); (case side2 => repeat (first | (with_reducible first | exact HB5.out | apply below_alloc | apply pw_below_drewN | apply below_drew1 | refine below_set ?_ hge.out))); rintro e w8 ⟨rfl, hi3, hb3, hk3⟩; have HI8 := Lib.hid hi3; have HB8 := Lib.hid hb3; have HR8 := Lib.hid (R_keepS HR5.out HI5.out hk3); clear hi3 hb3 hk3; have k1_8 := cellS71_1 HI8.out.1; have k4_8 := cellS71_4 HI8.out.1; have z1_8 := blk_frozen HI8.out.1 1))
                first | ((try simp only [Exit.inBlock, Exit.then]); refine bodyPost_ret (results_tmp rfl _ _ _) rfl ?_) | go_end0
                refine ⟨w.heap.size, _, rfl, ?zzA, HR8.out, ?zzC⟩
                case zzA => repeat (first | (with_reducible first | exact HI8.out | apply IsS71.alloc | apply IsS71.drewN | apply IsS71.drew | apply IsS71.set_1))
                case zzC => repeat (first | (with_reducible first | exact HB8.out | apply below_alloc | apply pw_below_drewN | apply below_drew1 | refine below_set ?_ hge.out))
            · have hw9 : (tw2 == 0) = false := beq_eq_false_iff_ne.mpr hw
              have hr9 := HRR.out
              unfold restF at hr9
              rw [if_neg (fun h => hw h.1)] at hr9
              subst hr9
              clear hw
              go_wp2_with (first | (go_at_call 79; (with_reducible refine (labels_reader_take.calls w.heap.size s i m v 0 at_ 125 tb2 s ti2 m v tw2 ta2 w _ ?side1 ?side2 HT2.out).mono ?_); (case side1 => repeat (first | (with_reducible first | exact HI5.out | apply IsS71.alloc | apply IsS71.drewN | apply IsS71.drew | apply IsS71.set_1))); (case side2 => repeat (first | (with_reducible first | exact HB5.out | apply below_alloc | apply pw_below_drewN | apply below_drew1 | refine below_set ?_ hge.out))); rintro e w8 ⟨rfl, hi3, hb3, hk3⟩; have HI8 := Lib.hid hi3; have HB8 := Lib.hid hb3; have HR8 := Lib.hid (R_keepS HR5.out HI5.out hk3); clear hi3 hb3 hk3; have k1_8 := cellS71_1 HI8.out.1; have k4_8 := cellS71_4 HI8.out.1; have z1_8 := blk_frozen HI8.out.1 1))
              first | ((try simp only [Exit.inBlock, Exit.then]); refine bodyPost_ret (results_tmp rfl _ _ _) rfl ?_) | go_end0
              refine ⟨w.heap.size, _, rfl, ?zzA, HR8.out, ?zzC⟩
              case zzA => repeat (first | (with_reducible first | exact HI8.out | apply IsS71.alloc | apply IsS71.drewN | apply IsS71.drew | apply IsS71.set_1))
              case zzC => repeat (first | (with_reducible first | exact HB8.out | apply below_alloc | apply pw_below_drewN | apply below_drew1 | refine below_set ?_ hge.out))

          · have hw59 : (wy == 0) = false := beq_eq_false_iff_ne.mpr hw5
            have hRR := HRR0.out
            unfold closeF restF at hRR
            dsimp only at hRR
            rw [if_neg hw5] at hRR
            dsimp only at hRR
            rw [if_neg (fun h => hw5 h.1)] at hRR
            subst hRR
            clear hc hL5
            go_wp2
            first | ((try simp only [Exit.inBlock, Exit.then]); refine bodyPost_ret (results_tmp rfl _ _ _) rfl ?_) | go_end0
            refine ⟨w.heap.size, _, rfl, ?zzA, HR5.out, ?zzC⟩
            case zzA => repeat (first | (with_reducible first | exact HI5.out | apply IsS71.alloc | apply IsS71.drewN | apply IsS71.drew | apply IsS71.set_1))
            case zzC => repeat (first | (with_reducible first | exact HB5.out | apply below_alloc | apply pw_below_drewN | apply below_drew1 | refine below_set ?_ hge.out))
end Go.Proofs.YtogegkfefpgbcaaDoor.PL
