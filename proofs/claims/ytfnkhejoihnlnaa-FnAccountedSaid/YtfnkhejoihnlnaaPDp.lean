/- What functions of the program compute, in plain Lean, as the value machine runs them. Conditions: none. -/
import Derived.Test.YtfnkhejoihnlnaaPDr
import Derived.Test.YtfnkhejoihnlnaaPPk
import Derived.Test.YtfnkhejoihnlnaaPDb
set_option linter.unusedVariables false
set_option linter.unusedSimpArgs false
namespace Go.Proofs.Ytfnkhejoihnlnaa.Pl
open Vm
noncomputable section



theorem okm_ff (x : Bool) : okm false x true = true := by cases x <;> rfl
theorem SegmentOk_iff {q : SSegment} : SegmentOk q = true ↔ between q.SrcPort 0 65535 = true ∧ between q.DstPort 0 65535 = true ∧ len q.Body ≤ 320 ∧
    ((q.Kind = 6 ∧ between q.Seq 0 4294967295 = true ∧ between q.Ack 0 4294967295 = true ∧ between q.Flags 0 31 = true ∧ between q.Window 0 65535 = true) ∨ (q.Kind = 17 ∧ q.Seq = 0 ∧ q.Ack = 0 ∧ q.Flags = 0 ∧ q.Window = 0)) := by
  unfold SegmentOk impl_SegmentOk_t
  cases h1 : between q.SrcPort 0 65535
  · simp
  cases h2 : between q.DstPort 0 65535
  · simp
  by_cases h3 : 320 < len q.Body
  · simp [h3]
    omega
  · have h3' : len q.Body ≤ 320 := by omega
    by_cases h6 : q.Kind = 6
    · simp only [h6, h3, h3', decide_false, Bool.not_true, cond_false, id, beq_self_eq_true, cond_true, cand, true_and, show ¬ ((6 : Int) = 17) by decide, false_and, or_false]
    · by_cases h17 : q.Kind = 17
      · simp only [h17, h3, h3', decide_false, Bool.not_true, cond_false, id, beq_self_eq_true, cond_true, cand, true_and, show ((17 : Int) == 6) = false by decide, show ¬ ((17 : Int) = 6) by decide, false_and, false_or, beq_iff_eq]
      · simp [h6, h17, h3, h3']
theorem PacketOk_iff {p : SPacket} : PacketOk p = true ↔ between p.DstMac 0 281474976710655 = true ∧ between p.SrcMac 0 281474976710655 = true ∧ between p.Vlan (-1) 4095 = true ∧ between p.Tos 0 255 = true ∧ between p.Ttl 0 255 = true ∧ between p.Id 0 65535 = true ∧ between p.SrcIp 0 4294967295 = true ∧ between p.DstIp 0 4294967295 = true ∧ SegmentOk p.Seg = true ∧ len p.Seg.Body ≤ 128 := by
  unfold PacketOk impl_PacketOk_t SuperOk impl_SuperOk_t
  simp only [id, cand, decide_eq_true_eq]
  constructor
  · rintro ⟨⟨a, b, c, d, e, f, h, i, j, _⟩, k⟩
    exact ⟨a, b, c, d, e, f, h, i, j, k⟩
  · rintro ⟨a, b, c, d, e, f, h, i, j, k⟩
    refine ⟨⟨a, b, c, d, e, f, h, i, j, ?_⟩, k⟩
    rw [decide_eq_true k]
    rfl
theorem pick_rng (c : Sl01Cur) {l : Rows} {a b : Int} (h : 0 < l.length) (hb : l.all (fun r => decide (a ≤ rI r 0) && decide (rI r 0 ≤ b)) = true) : between (l01PickInt c l).1 a b = true := by
  obtain ⟨k, hk, e⟩ := l01PickInt_mem c h
  have := List.all_eq_true.1 hb (nth l k) (nth_mem hk)
  simp only [Bool.and_eq_true, decide_eq_true_eq] at this
  rw [e]
  exact between_iff.2 this
theorem l06Segment_v {c : Sl01Cur} (h : curOk c = true) : SegmentOk (l06Segment c 40).1 = true ∧ len (l06Segment c 40).1.Body ≤ 40 := by
  have a1 := l01Below_cur h 2
  have a2 := l01Below_cur a1 65536
  have a3 := l01PickInt_cur a2 [[.int 0], [.int 100], [.int 4294967290], [.int ((l01Below ((l01Below c 2).2) 65536).1)]]
  have a4 := l01PickInt_cur a3 [[.int 0], [.int 5], [.int 4294967295]]
  have a5 := l06Flags_k a4
  have a6 := l01PickInt_cur a5.2 [[.int 0], [.int 512], [.int 65535]]
  have a7 := l01Below_cur a6 (w64 (40 + 1))
  have a8 := fun n => l01Text_cur a7 n
  have b1 := l01Below_range c 2
  have b11 := b1.2 (by omega)
  have b2 := l01Below_range (l01Below c 2).2 65536
  have b22 := b2.2 (by omega)
  have b3 : between (l01PickInt ((l01Below ((l01Below c 2).2) 65536).2) ([[.int 0], [.int 100], [.int 4294967290], [.int ((l01Below ((l01Below c 2).2) 65536).1)]])).1 0 4294967295 = true := by
    refine pick_rng _ (by simp) ?_
    have e : rI [DC.int ((l01Below ((l01Below c 2).2) 65536).1)] 0 = (l01Below ((l01Below c 2).2) 65536).1 := rfl
    simp only [List.all_cons, List.all_nil, e, Bool.and_true, Bool.and_eq_true, decide_eq_true_eq]
    exact ⟨by decide, by decide, by decide, by omega⟩
  have b4 : ∀ d, between (l01PickInt d [[.int 0], [.int 5], [.int 4294967295]]).1 0 4294967295 = true := fun d => pick_rng _ (by simp) (by decide)
  have b5 : ∀ d, curOk d = true → between (l06Flags d).1 0 31 = true := by
    intro d hd
    have hp : pickOk d [[.int 16], [.int 16], [.int 16], [.int 24], [.int 17], [.int 2], [.int 4], [.int 31], [.int 0]] = true := pick_t hd (by decide)
    simp only [l06Flags, spec_l06Flags_t, hp, andt_true_l, cond_true, Option.getD_some]
    exact pick_rng _ (by simp) (by decide)
  have b6 : ∀ d, between (l01PickInt d [[.int 0], [.int 512], [.int 65535]]).1 0 65535 = true := fun d => pick_rng _ (by simp) (by decide)
  simp only [l06Segment, spec_l06Segment_t, cur1_t _ h, cur1_t _ a1, pick_c a2, pick_c a3, a5.1, pick_c a5.2, cur1_t _ a6, cur1_t _ a7, cur1_t _ (a8 _), andt_true_l, andt_true_r, cond_true]
  have c5 := b5 _ a4
  have b7 := l01Below_range (l01PickInt (l06Flags (l01PickInt (l01PickInt (l01Below (l01Below c 2).2 65536).2 [[.int 0], [.int 100], [.int 4294967290], [.int ((l01Below ((l01Below c 2).2) 65536).1)]]).2 [[.int 0], [.int 5], [.int 4294967295]]).2).2 [[.int 0], [.int 512], [.int 65535]]).2 (w64 (40 + 1))
  have b77 := b7.2 (by decide)
  have e41 : w64 (40 + 1) = 41 := by decide
  rw [e41] at b7 b77 ⊢
  have b8 := l01Text_len (l01Below (l01PickInt (l06Flags (l01PickInt (l01PickInt (l01Below (l01Below c 2).2 65536).2 [[.int 0], [.int 100], [.int 4294967290], [.int ((l01Below ((l01Below c 2).2) 65536).1)]]).2 [[.int 0], [.int 5], [.int 4294967295]]).2).2 [[.int 0], [.int 512], [.int 65535]]).2 41).2 b7.1 (by omega)
  have ew : w64 (1000 + (l01Below c 2).1) = 1000 + (l01Below c 2).1 := w64_in (by omega) (by omega)
  rw [ew]
  have bp : between (1000 + (l01Below c 2).1) 0 65535 = true := between_iff.2 (by omega)
  generalize l01Below (l01PickInt (l06Flags (l01PickInt (l01PickInt (l01Below (l01Below c 2).2 65536).2 [[.int 0], [.int 100], [.int 4294967290], [.int ((l01Below ((l01Below c 2).2) 65536).1)]]).2 [[.int 0], [.int 5], [.int 4294967295]]).2).2 [[.int 0], [.int 512], [.int 65535]]).2 41 = X at b7 b77 b8 ⊢
  cases (l01Once (l01Text X.2 X.1).2 4).1
  · refine ⟨SegmentOk_iff.2 ⟨bp, rfl, ?_, .inl ⟨rfl, b3, b4 _, c5, b6 _⟩⟩, ?_⟩
    · show len (l01Text X.2 X.1).1 ≤ 320
      omega
    · show len (l01Text X.2 X.1).1 ≤ 40
      omega
  · refine ⟨SegmentOk_iff.2 ⟨bp, rfl, ?_, .inr ⟨rfl, rfl, rfl, rfl, rfl⟩⟩, ?_⟩
    · show len (l01Text X.2 X.1).1 ≤ 320
      omega
    · show len (l01Text X.2 X.1).1 ≤ 40
      omega
theorem l07Packet_v {c : Sl01Cur} (h : curOk c = true) : PacketOk (l07Packet c 40).1 = true := by
  have a1 := l01PickInt_cur h [[.int 2], [.int 2], [.int 2], [.int 4], [.int 281474976710655]]
  have a2 := l01PickInt_cur a1 [[.int 6], [.int 8]]
  have a3 := l01PickInt_cur a2 [[.int (-1)], [.int (-1)], [.int 7]]
  have a4 := l01PickInt_cur a3 [[.int 0], [.int 0], [.int 255]]
  have a5 := l01PickInt_cur a4 [[.int 1], [.int 65535], [.int 65534]]
  have a6 := l01PickInt_cur a5 [[.int 64], [.int 64], [.int 255]]
  have a7 := l06Host_k a6
  have a8 := l06Segment_k a7.2 (minI 40 128)
  have e40 : minI 40 128 = 40 := by decide
  have ef : decide ((128 : Int) < 40) = false := by decide
  simp only [l07Packet, spec_l07Packet_t, pick_c h, pick_c a1, pick_c a2, pick_c a3, pick_c a4, pick_c a5, a7.1, a8.1, andt_true_l, andt_true_r, cond_true, okm_ff, okm_tt, ef, cond_false]
  rw [e40] at a8 ⊢
  have hv := l06Segment_v a7.2
  have hh : between (l06Host (l01PickInt (l01PickInt (l01PickInt (l01PickInt (l01PickInt (l01PickInt c [[.int 2], [.int 2], [.int 2], [.int 4], [.int 281474976710655]]).2 [[.int 6], [.int 8]]).2 [[.int (-1)], [.int (-1)], [.int 7]]).2 [[.int 0], [.int 0], [.int 255]]).2 [[.int 1], [.int 65535], [.int 65534]]).2 [[.int 64], [.int 64], [.int 255]]).2).1 0 4294967295 = true := by
    generalize (l01PickInt (l01PickInt (l01PickInt (l01PickInt (l01PickInt (l01PickInt c [[.int 2], [.int 2], [.int 2], [.int 4], [.int 281474976710655]]).2 [[.int 6], [.int 8]]).2 [[.int (-1)], [.int (-1)], [.int 7]]).2 [[.int 0], [.int 0], [.int 255]]).2 [[.int 1], [.int 65535], [.int 65534]]).2 [[.int 64], [.int 64], [.int 255]]).2 = d at a6 ⊢
    have b := l01Below_range d 3
    have b2 := b.2 (by omega)
    simp only [l06Host, spec_l06Host_t, cur1_t _ a6, andt_true_l, cond_true, Option.getD_some]
    rw [w64_in (by omega) (by omega)]
    exact between_iff.2 (by omega)
  generalize l06Segment (l06Host (l01PickInt (l01PickInt (l01PickInt (l01PickInt (l01PickInt (l01PickInt c [[.int 2], [.int 2], [.int 2], [.int 4], [.int 281474976710655]]).2 [[.int 6], [.int 8]]).2 [[.int (-1)], [.int (-1)], [.int 7]]).2 [[.int 0], [.int 0], [.int 255]]).2 [[.int 1], [.int 65535], [.int 65534]]).2 [[.int 64], [.int 64], [.int 255]]).2).2 40 = G at hv ⊢
  have fin : PacketOk (⟨(l01PickInt c [[.int 2], [.int 2], [.int 2], [.int 4], [.int 281474976710655]]).1, (l01PickInt (l01PickInt c [[.int 2], [.int 2], [.int 2], [.int 4], [.int 281474976710655]]).2 [[.int 6], [.int 8]]).1,
      (l01PickInt (l01PickInt (l01PickInt c [[.int 2], [.int 2], [.int 2], [.int 4], [.int 281474976710655]]).2 [[.int 6], [.int 8]]).2 [[.int (-1)], [.int (-1)], [.int 7]]).1,
      (l01PickInt (l01PickInt (l01PickInt (l01PickInt c [[.int 2], [.int 2], [.int 2], [.int 4], [.int 281474976710655]]).2 [[.int 6], [.int 8]]).2 [[.int (-1)], [.int (-1)], [.int 7]]).2 [[.int 0], [.int 0], [.int 255]]).1,
      (l01PickInt (l01PickInt (l01PickInt (l01PickInt (l01PickInt c [[.int 2], [.int 2], [.int 2], [.int 4], [.int 281474976710655]]).2 [[.int 6], [.int 8]]).2 [[.int (-1)], [.int (-1)], [.int 7]]).2 [[.int 0], [.int 0], [.int 255]]).2 [[.int 1], [.int 65535], [.int 65534]]).1,
      (l01PickInt (l01PickInt (l01PickInt (l01PickInt (l01PickInt (l01PickInt c [[.int 2], [.int 2], [.int 2], [.int 4], [.int 281474976710655]]).2 [[.int 6], [.int 8]]).2 [[.int (-1)], [.int (-1)], [.int 7]]).2 [[.int 0], [.int 0], [.int 255]]).2 [[.int 1], [.int 65535], [.int 65534]]).2 [[.int 64], [.int 64], [.int 255]]).1,
      (l06Host (l01PickInt (l01PickInt (l01PickInt (l01PickInt (l01PickInt (l01PickInt c [[.int 2], [.int 2], [.int 2], [.int 4], [.int 281474976710655]]).2 [[.int 6], [.int 8]]).2 [[.int (-1)], [.int (-1)], [.int 7]]).2 [[.int 0], [.int 0], [.int 255]]).2 [[.int 1], [.int 65535], [.int 65534]]).2 [[.int 64], [.int 64], [.int 255]]).2).1, 167772161, G.1⟩ : SPacket) = true :=
    PacketOk_iff.2 ⟨pick_rng _ (by simp) (by decide), pick_rng _ (by simp) (by decide), pick_rng _ (by simp) (by decide), pick_rng _ (by simp) (by decide), pick_rng _ (by simp) (by decide), pick_rng _ (by simp) (by decide), hh, rfl, hv.1, by show len G.1.Body ≤ 128; omega⟩
  cases (G.1.Kind == 6)
  · exact fin
  · cases ((bits .andNot .i64 G.1.Flags 9) == 16)
    · exact fin
    · exact fin

end
end Go.Proofs.Ytfnkhejoihnlnaa.Pl
