/- What functions of the program compute, in plain Lean, as the value machine runs them. Conditions: none. -/
import Derived.Test.YtfnkhejoihnlnaaPSf
import Derived.Test.YtfnkhejoihnlnaaPDc
import Derived.Test.YtfnkhejoihnlnaaPDq
import Derived.Test.YtfnkhejoihnlnaaPCl
set_option linter.unusedVariables false
set_option linter.unusedSimpArgs false
namespace Go.Proofs.Ytfnkhejoihnlnaa.Pl
open Vm
noncomputable section


def spec_DrawPackets_t {α : Type} (bad : α) (k_ : Rows → α) (code : Rows) : α :=
  bif andt true (cur09 (l01New code) 10) then
    k_ ((l09List (l01New code) 10).1)
  else bad
def DrawPackets (code : Rows) : Rows := (l09List (l01New code) 10).1
theorem cur09_ten {code : Rows} (h : code.length ≤ 9223372036854775807) : cur09 (l01New code) 10 = true := by
  unfold cur09
  rw [l01New_ok h]
  rfl
theorem spec_DrawPackets_c {α : Type} (bad : α) (k_ : Rows → α) (code : Rows) (h_code : WtC (.sl [.int .u8]) (.sl code)) : spec_DrawPackets_t bad k_ code = k_ (DrawPackets code) := by
  have h := cur09_ten (wt_sl h_code).1
  unfold spec_DrawPackets_t DrawPackets
  simp only [h, andt_true_l, cond_true]


theorem nth_set (l : Rows) (i j : Nat) (x : List DC) (hi : i < l.length) : nth (l.set i x) j = if j = i then x else nth l j := by
  simp only [nth, List.getD_eq_getElem?_getD]
  by_cases h : j = i
  · subst h
    rw [List.getElem?_set_self hi, if_pos rfl]
    rfl
  · rw [List.getElem?_set_ne (fun e => h e.symm), if_neg h]
theorem BucketOk_iff {b : SBucket} : BucketOk b = true ↔ between b.Rate 0 10000 = true ∧ between b.Burst 0 100000 = true ∧ between b.Tokens 0 b.Burst = true := by
  unfold BucketOk impl_BucketOk_t
  simp only [id, cand]
theorem fnBad_iff {ports : Rows} {r : List DC} : fnBad ports r = false ↔ between (rI r 0) 0 7 = true ∧ between (rI r 1) 1 (w64 ((len ports) - 1)) = true ∧ BucketOk (SBucket.decAt r 2) = true ∧ between (rI r 6) 0 1000000000000 = true ∧ between (rI r 7) 0 1000000000000 = true := by
  unfold fnBad
  cases between (rI r 0) 0 7 <;> cases between (rI r 1) 1 (w64 ((len ports) - 1)) <;> cases BucketOk (SBucket.decAt r 2) <;> cases between (rI r 6) 0 1000000000000 <;> cases between (rI r 7) 0 1000000000000 <;> simp
theorem FunctionsOk_set {l ports : Rows} {K : Nat} {x : List DC} (h : FunctionsOk l ports = true) (hK : K < l.length) (h0 : rI x 0 = rI (nth l K) 0) (h1 : rI x 1 = rI (nth l K) 1) (hx : fnBad ports x = false) : FunctionsOk (l.set K x) ports = true := by
  obtain ⟨hP, h⟩ := FunctionsOk_iff.1 h
  have c0 : ∀ j, rI (nth (l.set K x) j) 0 = rI (nth l j) 0 := by
    intro j
    rw [nth_set l K j x hK]
    by_cases hj : j = K
    · rw [if_pos hj, h0, hj]
    · rw [if_neg hj]
  have c1 : ∀ j, rI (nth (l.set K x) j) 1 = rI (nth l j) 1 := by
    intro j
    rw [nth_set l K j x hK]
    by_cases hj : j = K
    · rw [if_pos hj, h1, hj]
    · rw [if_neg hj]
  refine FunctionsOk_iff.2 ⟨hP, fun i hi => ⟨?_, fun j hj => ?_⟩⟩
  · rw [List.length_set] at hi
    rw [nth_set l K i x hK]
    by_cases hiK : i = K
    · rw [if_pos hiK]; exact hx
    · rw [if_neg hiK]; exact (h i hi).1
  · rw [List.length_set] at hi
    rw [c0, c0, c1, c1]
    exact (h i hi).2 j hj
theorem FunctionAt_self {l ports : Rows} {K : Nat} (h : FunctionsOk l ports = true) (hK : K < l.length) : FunctionAt l (rI (nth l K) 1) = (K : Int) := by
  obtain ⟨_, h⟩ := FunctionsOk_iff.1 h
  unfold FunctionAt
  rcases findIdx_spec (fun _ r => (rI r 1) == (rI (nth l K) 1)) l 0 with ⟨_, h2⟩ | ⟨j, hj, e, h3⟩
  · have := h2 K hK
    simp at this
  · rw [e]
    have h3 : rI (nth l j) 1 = rI (nth l K) 1 := by simpa using h3
    rcases Nat.lt_trichotomy j K with hlt | heq | hgt
    · exact absurd h3 ((h K hK).2 j hlt).2
    · omega
    · exact absurd h3.symm ((h j hj).2 K hgt).2
theorem SendFrom_eq {l ports : Rows} {K : Nat} {p : SPacket} (hF : FunctionsOk l ports = true) (hp : PacketOk p = true) (hK : K < l.length) :
    SendFrom l ports (K : Int) p = bif sfNo ports p (nth l K) then (l.set K (sfBad (nth l K)), [], false) else (l.set K (sfSent p (nth l K)), SwitchPacket ports (rI (nth l K) 1) p, true) := by
  have hb : between (K : Int) 0 (len l - 1) = true := (between_iff (n := (K : Int)) (a := 0) (b := len l - 1)).2 (by simp only [len]; omega)
  unfold SendFrom
  rw [hF, hp, hb]
  rfl
theorem spend_of {b : SBucket} {n : Int} (h : (SpendTokens b n).2 = true) : BucketOk b = true ∧ 0 ≤ n ∧ n ≤ b.Tokens ∧ (SpendTokens b n).1 = ⟨b.Rate, b.Burst, w64 (b.Tokens - n)⟩ := by
  unfold SpendTokens impl_SpendTokens_t at h ⊢
  cases hb : BucketOk b
  · rw [hb] at h; cases h
  · cases hn : between n 0 b.Tokens
    · rw [hb, hn] at h; cases h
    · have := between_iff.1 hn
      exact ⟨rfl, this.1, this.2, rfl⟩
/-- What a round keeps. -/
def AcI (L ports : Rows) (K i : Nat) (spent : Int) (l : Rows) : Prop :=
  l.length = L.length ∧ FunctionsOk l ports = true ∧ (nth l K).length = 8 ∧ rI (nth l K) 6 + rI (nth l K) 7 = (i : Int) ∧ 0 ≤ rI (nth l K) 6 ∧ 0 ≤ rI (nth l K) 7 ∧ spent = rI (nth L K) 4 - rI (nth l K) 4 ∧ 0 ≤ rI (nth l K) 4 ∧ rI (nth l K) 4 ≤ 400
theorem ac_step {L ports l : Rows} {K i : Nat} {spent : Int} {p : SPacket} (hI : AcI L ports K i spent l) (hK : K < L.length) (hL0 : 0 ≤ rI (nth L K) 4) (hL : rI (nth L K) 4 ≤ 400) (hi : i ≤ 100) (hp : PacketOk p = true) :
    ((SendFrom l ports (K : Int) p).2.2 = false ∧ (SendFrom l ports (K : Int) p).2.1 = [] ∧ AcI L ports K (i + 1) spent (SendFrom l ports (K : Int) p).1) ∨
    ((SendFrom l ports (K : Int) p).2.2 = true ∧ AcI L ports K (i + 1) (w64 (spent + len (BuildImage p).1)) (SendFrom l ports (K : Int) p).1) := by
  obtain ⟨hl, hF, h8, hs, h6, h7, hsp, h4, h40⟩ := hI
  have hKl : K < l.length := by omega
  rw [SendFrom_eq hF hp hKl]
  have hb := (FunctionsOk_iff.1 hF).2 K hKl
  obtain ⟨b0, b1, b2, b6, b7⟩ := fnBad_iff.1 hb.1
  have s6 := between_iff.1 b6
  have s7 := between_iff.1 b7
  cases hn : sfNo ports p (nth l K)
  · refine .inr ⟨rfl, ?_⟩
    have hsp2 : (sfSpend p (nth l K)).2 = true := by
      unfold sfNo at hn
      revert hn
      cases rB (nth l K) 5
      · simp
      cases decide (EntryVlan ports (rI (nth l K) 1) p < 0)
      · simp
      · simp
    obtain ⟨g1, g2, g3, g4⟩ := spend_of hsp2
    have hrow : nth (l.set K (sfSent p (nth l K))) K = sfSent p (nth l K) := nth_setl hKl _
    have w1 : w64 (rI (nth l K) 6 + 1) = rI (nth l K) 6 + 1 := w64_in (by omega) (by omega)
    have g3 : len (BuildImage p).1 ≤ rI (nth l K) 4 := g3
    have hl0 : 0 ≤ len (BuildImage p).1 := g2
    have w2 : w64 (rI (nth l K) 4 - len (BuildImage p).1) = rI (nth l K) 4 - len (BuildImage p).1 := w64_in (by omega) (by omega)
    have w3 : w64 (spent + len (BuildImage p).1) = spent + len (BuildImage p).1 := w64_in (by omega) (by omega)
    obtain ⟨k1, k2, k3⟩ := BucketOk_iff.1 g1
    have e : (rI (sfSent p (nth l K)) 0 = rI (nth l K) 0 ∧ rI (sfSent p (nth l K)) 1 = rI (nth l K) 1 ∧ rI (sfSent p (nth l K)) 6 = rI (nth l K) 6 + 1 ∧ rI (sfSent p (nth l K)) 7 = rI (nth l K) 7) ∧ rI (sfSent p (nth l K)) 4 = rI (nth l K) 4 - len (BuildImage p).1 ∧
        SBucket.decAt (sfSent p (nth l K)) 2 = ⟨rI (nth l K) 2, rI (nth l K) 3, rI (nth l K) 4 - len (BuildImage p).1⟩ ∧ (sfSent p (nth l K)).length = 8 := by
      have g4 : (sfSpend p (nth l K)).1 = ⟨rI (nth l K) 2, rI (nth l K) 3, w64 (rI (nth l K) 4 - len (BuildImage p).1)⟩ := g4
      unfold sfSent
      rw [g4, w1, w2]
      generalize rI (nth l K) 6 + 1 = u
      generalize rI (nth l K) 4 - len (BuildImage p).1 = v
      generalize nth l K = r at h8
      match r, h8 with
      | [a, b, c, d, e, f, x, y], _ => exact ⟨⟨rfl, rfl, rfl, rfl⟩, rfl, rfl, rfl⟩
    obtain ⟨⟨e0, e1, e6, e7⟩, e4, eb, e8⟩ := e
    have k33 := between_iff.1 k3
    have hbad : fnBad ports (sfSent p (nth l K)) = false := by
      refine fnBad_iff.2 ⟨by rw [e0]; exact b0, by rw [e1]; exact b1, ?_, by rw [e6]; exact between_iff.2 (by omega), by rw [e7]; exact b7⟩
      rw [eb]
      refine BucketOk_iff.2 ⟨k1, k2, ?_⟩
      have k34 : rI (nth l K) 4 ≤ rI (nth l K) 3 := k33.2
      exact (between_iff (n := rI (nth l K) 4 - len (BuildImage p).1) (a := 0) (b := rI (nth l K) 3)).2 (by omega)
    refine ⟨by rw [cond_false, List.length_set]; exact hl, FunctionsOk_set hF hKl e0 e1 hbad, ?_, ?_, ?_, ?_, ?_, ?_, ?_⟩ <;> simp only [cond_false, hrow]
    · exact e8
    · rw [e6, e7]; omega
    · rw [e6]; omega
    · rw [e7]; omega
    · rw [e4, w3]; omega
    · rw [e4]; omega
    · rw [e4]; omega
  · refine .inl ⟨rfl, rfl, ?_⟩
    have hrow : nth (l.set K (sfBad (nth l K))) K = sfBad (nth l K) := nth_setl hKl _
    have w1 : w64 (rI (nth l K) 7 + 1) = rI (nth l K) 7 + 1 := w64_in (by omega) (by omega)
    have e : (rI (sfBad (nth l K)) 0 = rI (nth l K) 0 ∧ rI (sfBad (nth l K)) 1 = rI (nth l K) 1 ∧ rI (sfBad (nth l K)) 6 = rI (nth l K) 6 ∧ rI (sfBad (nth l K)) 7 = rI (nth l K) 7 + 1) ∧ rI (sfBad (nth l K)) 4 = rI (nth l K) 4 ∧
        SBucket.decAt (sfBad (nth l K)) 2 = SBucket.decAt (nth l K) 2 ∧ (sfBad (nth l K)).length = 8 := by
      unfold sfBad
      rw [w1]
      generalize rI (nth l K) 7 + 1 = u
      generalize nth l K = r at h8
      match r, h8 with
      | [a, b, c, d, e, f, x, y], _ => exact ⟨⟨rfl, rfl, rfl, rfl⟩, rfl, rfl, rfl⟩
    obtain ⟨⟨e0, e1, e6, e7⟩, e4, eb, e8⟩ := e
    have hbad : fnBad ports (sfBad (nth l K)) = false :=
      fnBad_iff.2 ⟨by rw [e0]; exact b0, by rw [e1]; exact b1, by rw [eb]; exact b2, by rw [e6]; exact b6, by rw [e7]; exact between_iff.2 (by omega)⟩
    refine ⟨by rw [cond_true, List.length_set]; exact hl, FunctionsOk_set hF hKl e0 e1 hbad, ?_, ?_, ?_, ?_, ?_, ?_, ?_⟩ <;> simp only [cond_true, hrow]
    · exact e8
    · rw [e6, e7]; omega
    · rw [e6]; omega
    · rw [e7]; omega
    · rw [e4]; omega
    · rw [e4]; omega
    · rw [e4]; omega
theorem mpl_pos {n : Nat} (h : 1 ≤ n) : decide (0 < len (mpl n)) = true := by
  obtain ⟨n, rfl⟩ : ∃ q, n = q + 1 := ⟨n - 1, by omega⟩
  refine decide_eq_true ?_
  simp only [mpl, len, List.length_append, List.length_cons, List.length_nil]
  omega
theorem mac_in {n : Int} (h0 : 0 ≤ n) (h1 : n ≤ 281474976710655) : between n 0 281474976710655 = true := between_iff.2 ⟨h0, h1⟩
theorem src_ok {q : SPacket} {s : Int} (h : PacketOk q = true) (hs : between s 0 281474976710655 = true) : PacketOk (⟨q.DstMac, s, q.Vlan, q.Tos, q.Id, q.Ttl, q.SrcIp, q.DstIp, q.Seg⟩ : SPacket) = true := by
  obtain ⟨a, b, c⟩ := PacketOk_iff.1 h
  exact PacketOk_iff.2 ⟨a, hs, c⟩

def laws_FnAccounted_l0 {α : Type} (bad : α) (k_ : Bool → α) (code : Rows) (k : Int) (ports : Rows) (packets : Rows) (ih0 : Int → Int → Int → Rows → α) (sum : Int) (spent : Int) (i : Int) (list_ : Rows) : α :=
  let z0 : SPacket := (⟨rI (nth packets (Int.toNat i)) 0, w64 (2 * (w64 (k + 1))), rI (nth packets (Int.toNat i)) 2, rI (nth packets (Int.toNat i)) 3, rI (nth packets (Int.toNat i)) 4, rI (nth packets (Int.toNat i)) 5, rI (nth packets (Int.toNat i)) 6, rI (nth packets (Int.toNat i)) 7, SSegment.decAt (nth packets (Int.toNat i)) 8⟩ : SPacket)
  let z1 : Rows × Rows × Bool := SendFrom list_ ports k z0
  let z2 : Rows := z1.1
  let z3 : Bool := z1.2.2
  let z4 : Bool := (w64 ((rI (nth list_ (Int.toNat k)) 6) + (rI (nth list_ (Int.toNat k)) 7))) == sum
  let z5 : Bool := spent == (w64 ((rI (nth ((DrawFunctions code).1) (Int.toNat k)) 4) - (rI (nth list_ (Int.toNat k)) 4)))
  let z6 : Bool := decide (0 < len ((DrawFunctions code).2.2))
  let z7 : Bool := andt (andt (andt (andt true (idx k list_)) (inl (Int.toNat k) list_)) (idx k list_)) (inl (Int.toNat k) list_)
  let z8 : Bool := andt (andt (andt (andt z7 (idx k ((DrawFunctions code).1))) (inl (Int.toNat k) ((DrawFunctions code).1))) (idx k list_)) (inl (Int.toNat k) list_)
  bif decide (i < len packets) then
    bif andt (andt true (idx i packets)) (inl (Int.toNat i) packets) then
      bif andt true (SendFrom_ok list_ ports k z0) then
        bif bif (len z2) != (len list_) then true else bif !z3 then decide (0 < len z1.2.1) else false then k_ false
        else ih0 (w64 (sum + 1)) (bif z3 then w64 (spent + (len ((BuildImage z0).1))) else spent) (w64 (i + 1)) z2
      else bad
    else bad
  else bif okm z4 (okm z5 (okm z6 (andt (andt z8 (idx k list_)) (inl (Int.toNat k) list_)) z8) z8) z7 then
      k_ (bif z4 then bif z5 then bif z6 then (FunctionAt list_ (rI (nth list_ (Int.toNat k)) 1)) == k else false else false else false)
    else bad
def laws_FnAccounted_L0 {α : Type} (bad : α) (k_ : Bool → α) (N : Nat) (code : Rows) (k : Int) (ports : Rows) (packets : Rows) (m_ : Nat) : Int → Int → Int → Rows → α :=
  Nat.rec (motive := fun _ => Int → Int → Int → Rows → α) (fun _ _ _ _ => bad) (fun _ ih0 => laws_FnAccounted_l0 bad k_ code k ports packets ih0) m_
theorem laws_FnAccounted_L0_z {α : Type} (bad : α) (k_ : Bool → α) (N : Nat) (code : Rows) (k : Int) (ports : Rows) (packets : Rows) (sum : Int) (spent : Int) (i : Int) (list_ : Rows) : laws_FnAccounted_L0 bad k_ N code k ports packets 0 sum spent i list_ = bad := rfl
theorem laws_FnAccounted_L0_s {α : Type} (bad : α) (k_ : Bool → α) (N : Nat) (code : Rows) (k : Int) (ports : Rows) (packets : Rows) (m_ : Nat) (sum : Int) (spent : Int) (i : Int) (list_ : Rows) : laws_FnAccounted_L0 bad k_ N code k ports packets (m_ + 1) sum spent i list_ = laws_FnAccounted_l0 bad k_ code k ports packets (laws_FnAccounted_L0 bad k_ N code k ports packets m_) sum spent i list_ := rfl
def laws_FnAccounted_t {α : Type} (bad : α) (k_ : Bool → α) (l0 : Int → Rows → Rows → Int → Int → Int → Rows → α) (code : Rows) : α :=
  bif big code then k_ true
  else bif andt (andt true (cAt_ok code 0)) (!((len ((DrawFunctions code).1)) == 0)) then
      l0 (Int.tmod (cAt code 0) (len ((DrawFunctions code).1))) ((DrawFunctions code).2.1) (DrawPackets code) 0 0 0 ((DrawFunctions code).1)
    else bad
def laws_FnAccounted_f {α : Type} (bad : α) (k_ : Bool → α) (N : Nat) (code : Rows) : α := laws_FnAccounted_t bad k_ (fun k ports packets => laws_FnAccounted_L0 bad k_ N code k ports packets N) code
theorem laws_FnAccounted_c {α : Type} (bad : α) (k_ : Bool → α) (code : Rows) (h_code : WtC (.sl [.int .u8]) (.sl code)) (hok : fitL ((.sl [.int .u8]) :: ([])) (.sl code :: ([])) = true) : ∃ N, laws_FnAccounted_f bad k_ N code = k_ true := by
  obtain ⟨hl, _⟩ := wt_sl h_code
  obtain ⟨F1, F2, F3, F4, F5, F6⟩ := DrawFunctions_facts (code := code)
  have hpk := l09List_v (cur09_ten hl)
  have hcr := cAt_range h_code 0
  have hpn : len (DrawPackets code) ≤ 10 := hpk.2.2.2
  have hpl : (DrawPackets code).length ≤ 10 := by simp only [len] at hpn; omega
  refine ⟨(DrawPackets code).length + 1, ?_⟩
  unfold laws_FnAccounted_f laws_FnAccounted_t
  have c0 : cAt_ok code 0 = true := rfl
  have n0 : (len (DrawFunctions code).1 == 0) = false := by simp only [len, beq_eq_false_iff_ne, ne_eq]; omega
  cases big code
  case true => rfl
  simp only [c0, n0, Bool.not_false, andt_true_l, cond_true, cond_false]
  have hk := tmod_rng (x := cAt code 0) (m := len (DrawFunctions code).1) hcr.1 (by simp only [len]; omega)
  generalize Int.tmod (cAt code 0) (len (DrawFunctions code).1) = k at hk
  obtain ⟨K, rfl⟩ := Int.eq_ofNat_of_zero_le hk.1
  have hKL : K < (DrawFunctions code).1.length := by
    have := hk.2
    simp only [len] at this
    omega
  have hKf := FR_c (F3 K hKL)
  have key : ∀ (m n i : Nat) (spent : Int) (l : Rows), i + m = (DrawPackets code).length → m < n → AcI (DrawFunctions code).1 (DrawFunctions code).2.1 K i spent l →
      laws_FnAccounted_L0 bad k_ ((DrawPackets code).length + 1) code (K : Int) (DrawFunctions code).2.1 (DrawPackets code) n (i : Int) spent (i : Int) l = k_ true := by
    intro m
    induction m with
    | zero =>
      intro n i spent l h1 h2 hI
      obtain ⟨n, rfl⟩ : ∃ q, n = q + 1 := ⟨n - 1, by omega⟩
      have hi : i = (DrawPackets code).length := by omega
      obtain ⟨il, iF, i8, is, i6, i7, isp, i4, i40⟩ := hI
      have hKl : K < l.length := by omega
      rw [laws_FnAccounted_L0_s]
      have hnl : decide ((i : Int) < len (DrawPackets code)) = false := decide_eq_false (by simp only [len]; omega)
      have z4 : (w64 (rI (nth l K) 6 + rI (nth l K) 7) == (i : Int)) = true := by rw [w64_in (by omega) (by omega), is]; simp
      have z5 : (spent == w64 (rI (nth (DrawFunctions code).1 K) 4 - rI (nth l K) 4)) = true := by rw [w64_in (by omega) (by omega), isp]; simp
      have z6 : decide (0 < len (DrawFunctions code).2.2) = true := by rw [F5]; exact mpl_pos F1
      have z7 := FunctionAt_self iF hKl
      simp only [laws_FnAccounted_l0, hnl, Int.toNat_natCast, idx_nat hKl, inl_nat hKl, idx_nat hKL, inl_nat hKL, z4, z5, z6, z7, andt_true_l, andt_true_r, okm_tt, cond_true, cond_false, beq_self_eq_true]
    | succ m ihm =>
      intro n i spent l h1 h2 hI
      obtain ⟨n, rfl⟩ : ∃ q, n = q + 1 := ⟨n - 1, by omega⟩
      have hi : i < (DrawPackets code).length := by omega
      obtain ⟨q, hq, hqv⟩ := hpk.1 (nth (DrawPackets code) i) (nth_mem hi)
      have ws : w64 (2 * (w64 ((K : Int) + 1))) = 2 * ((K : Int) + 1) := by rw [w64_in (n := (K : Int) + 1) (by omega) (by omega), w64_in (by omega) (by omega)]
      have hv : PacketOk (⟨rI (nth (DrawPackets code) i) 0, w64 (2 * (w64 ((K : Int) + 1))), rI (nth (DrawPackets code) i) 2, rI (nth (DrawPackets code) i) 3, rI (nth (DrawPackets code) i) 4, rI (nth (DrawPackets code) i) 5, rI (nth (DrawPackets code) i) 6, rI (nth (DrawPackets code) i) 7, SSegment.decAt (nth (DrawPackets code) i) 8⟩ : SPacket) = true := by
        rw [hq, ws]
        have hsb : between (2 * ((K : Int) + 1)) 0 281474976710655 = true := mac_in (by omega) (by omega)
        exact src_ok hqv hsb
      have hst := ac_step (p := (⟨rI (nth (DrawPackets code) i) 0, w64 (2 * (w64 ((K : Int) + 1))), rI (nth (DrawPackets code) i) 2, rI (nth (DrawPackets code) i) 3, rI (nth (DrawPackets code) i) 4, rI (nth (DrawPackets code) i) 5, rI (nth (DrawPackets code) i) 6, rI (nth (DrawPackets code) i) 7, SSegment.decAt (nth (DrawPackets code) i) 8⟩ : SPacket)) hI hKL hKf.2.2.2.2.2.1 hKf.2.2.2.2.2.2 (by omega) hv
      have hsm : SendFrom_ok l (DrawFunctions code).2.1 (K : Int) (⟨rI (nth (DrawPackets code) i) 0, w64 (2 * (w64 ((K : Int) + 1))), rI (nth (DrawPackets code) i) 2, rI (nth (DrawPackets code) i) 3, rI (nth (DrawPackets code) i) 4, rI (nth (DrawPackets code) i) 5, rI (nth (DrawPackets code) i) 6, rI (nth (DrawPackets code) i) 7, SSegment.decAt (nth (DrawPackets code) i) 8⟩ : SPacket) = true := by
        have := hI.1
        unfold SendFrom_ok sm
        exact decide_eq_true (by omega)
      rw [laws_FnAccounted_L0_s]
      have w1 : w64 ((i : Int) + 1) = ((i + 1 : Nat) : Int) := by rw [w64_in (by omega) (by omega)]; omega
      dsimp only [laws_FnAccounted_l0]
      rw [show Int.toNat (i : Int) = i from rfl, hsm]
      generalize SendFrom l (DrawFunctions code).2.1 (K : Int) (⟨rI (nth (DrawPackets code) i) 0, w64 (2 * (w64 ((K : Int) + 1))), rI (nth (DrawPackets code) i) 2, rI (nth (DrawPackets code) i) 3, rI (nth (DrawPackets code) i) 4, rI (nth (DrawPackets code) i) 5, rI (nth (DrawPackets code) i) 6, rI (nth (DrawPackets code) i) 7, SSegment.decAt (nth (DrawPackets code) i) 8⟩ : SPacket) = X at hst ⊢
      obtain ⟨x1, x2, x3⟩ := X
      simp only at hst ⊢
      simp only [lt_len hi, idx_nat hi, inl_nat hi, w1, andt_true_l, andt_true_r, cond_true]
      have hln : ∀ x : Rows, x.length = (DrawFunctions code).1.length → (len x != len l) = false := fun x hx => by
        have := hI.1
        simp only [len, bne_eq_false_iff_eq]
        omega
      rcases hst with ⟨a, b, c⟩ | ⟨a, c⟩
      · subst a b
        rw [hln _ c.1]
        exact ihm n (i + 1) spent _ (by omega) (by omega) c
      · subst a
        rw [hln _ c.1]
        exact ihm n (i + 1) _ _ (by omega) (by omega) c
  exact key (DrawPackets code).length ((DrawPackets code).length + 1) 0 0 (DrawFunctions code).1 (by omega) (by omega) ⟨rfl, F4, hKf.2.2.2.2.1, by rw [hKf.2.2.1, hKf.2.2.2.1]; rfl, by rw [hKf.2.2.1]; omega, by rw [hKf.2.2.2.1]; omega, by omega, hKf.2.2.2.2.2.1, hKf.2.2.2.2.2.2⟩

end
end Go.Proofs.Ytfnkhejoihnlnaa.Pl
