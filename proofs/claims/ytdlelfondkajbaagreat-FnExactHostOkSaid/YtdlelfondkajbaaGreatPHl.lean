/- What functions of the program compute, in plain Lean, as the value machine runs them. Conditions: none. -/
import Derived.Test.YtdlelfondkajbaaGreatPHo
set_option linter.unusedVariables false
set_option linter.unusedSimpArgs false
set_option maxRecDepth 100000
namespace Go.Proofs.YtdlelfondkajbaaGreat.Pl
open Vm
noncomputable section



theorem szGo_bufs : ∀ (a : Rows) (l : Int), (∀ r ∈ a, WtL SSent.ct r) → 0 ≤ l → l ≤ 1048576 → 0 ≤ szGo (fun r l => laws_szSent (SSent.decAt r 0) l) a l → (bufs a : Int) ≤ l
  | [], l, _, h, _, _ => by simpa [bufs] using h
  | r :: rs, l, hw, h, h', h0 => by
    simp only [szGo] at h0
    have hr : WtC (.sl [.int .i64]) (.sl (rR r 2)) := by
      have := hw r (by simp)
      rw [← SSent.eta this] at this
      exact SSent.wt_Buffers this
    obtain ⟨e, hl⟩ := sz_len h h' (wt_sl hr).1
    have hs : laws_szSent (SSent.decAt r 0) l = bif decide (l - len (rR r 2) < 0) then -1 else l - len (rR r 2) := by
      unfold laws_szSent laws_szSent_t szFlat
      show (bif decide ((bif decide (w64 (l - len (rR r 2)) < 0) then -1 else w64 (l - len (rR r 2))) < 0) then id (-1) else id (bif decide (w64 (l - len (rR r 2)) < 0) then -1 else w64 (l - len (rR r 2)))) = _
      rw [e]
      by_cases hn : l - len (rR r 2) < 0
      · simp [hn]
      · simp [hn]
    by_cases hn : l - len (rR r 2) < 0
    · simp [hs, hn] at h0
    · have hs : laws_szSent (SSent.decAt r 0) l = l - len (rR r 2) := by simp [hs, hn]
      have hn' : ¬ laws_szSent (SSent.decAt r 0) l < 0 := by omega
      simp only [hn', decide_false, cond_false] at h0
      rw [hs] at h0
      have ih := szGo_bufs rs (l - len (rR r 2)) (fun x hx => hw x (by simp [hx])) (by omega) (by omega) h0
      simp only [bufs]
      simp only [len] at ih hn
      omega
theorem szSentS_bufs {a : Rows} {left : Int} (hwt : WtC (.sl [.int .i64, .int .i64, .sl [.int .i64]]) (.sl a)) (h1 : 0 ≤ left) (h2 : left ≤ 1048576) (h0 : 0 ≤ laws_szSentS a left) : bufs a ≤ 1048576 := by
  obtain ⟨hl, hw⟩ := wt_sl hwt
  obtain ⟨e, h3⟩ := sz_len h1 h2 hl
  simp only [laws_szSentS, szAll, e] at h0
  by_cases hn : left - len a < 0
  · simp [hn] at h0
  · simp only [hn, decide_false, cond_false] at h0
    have := szGo_bufs a (left - len a) hw (by omega) (by omega) h0
    omega
theorem txSm_sz {a : STxQueue} {left : Int} (hwt : WtL STxQueue.ct a.enc) (h1 : 0 ≤ left) (h2 : left ≤ 1048576) (h0 : 0 ≤ laws_szTxQueue a left) : txSm a = true := by
  simp only [laws_szTxQueue, laws_szTxQueue_t, id] at h0
  by_cases c0 : laws_szPool a.Pool left < 0
  · simp only [c0, decide_true, cond_true] at h0; omega
  simp only [c0, decide_false, cond_false] at h0
  have k0 := laws_szPool_ok (STxQueue.wt_Pool hwt) h1 h2 (Int.not_lt.1 c0)
  by_cases c1 : laws_szSentS a.Waiting (laws_szPool a.Pool left) < 0
  · simp only [c1, decide_true, cond_true] at h0; omega
  have k1 := laws_szSentS_ok (STxQueue.wt_Waiting hwt) (Int.not_lt.1 c0) k0.1 (Int.not_lt.1 c1)
  have k2 := szSentS_bufs (STxQueue.wt_Waiting hwt) (Int.not_lt.1 c0) k0.1 (Int.not_lt.1 c1)
  have f1 : sm a.Pool.Free = true := by
    have := k0.2
    simp only [laws_toPool_ok, laws_toPool_t, andt_true_l] at this
    cases h : sm a.Pool.Free
    · rw [h] at this; cases this
    · rfl
  have f2 : sm a.Waiting = true := by
    have := k1.2
    simp only [laws_toSentS_ok, Bool.and_eq_true] at this
    exact this.1
  simp only [txSm, f1, f2, Bool.true_and, decide_eq_true_eq]
  omega
theorem hostSm_sz {a : SHost} {left : Int} (hwt : WtL SHost.ct a.enc) (h1 : 0 ≤ left) (h2 : left ≤ 1048576) (h0 : 0 ≤ laws_szHost a left) : hostSm a = true := by
  simp only [laws_szHost, laws_szHost_t, id] at h0
  by_cases c0 : laws_szMemory a.Memory left < 0
  · simp only [c0, decide_true, cond_true] at h0; omega
  simp only [c0, decide_false, cond_false] at h0
  have k0 := laws_szMemory_ok (SHost.wt_Memory hwt) h1 h2 (Int.not_lt.1 c0)
  by_cases c1 : szFlat a.Maps (laws_szMemory a.Memory left) < 0
  · simp only [c1, decide_true, cond_true] at h0; omega
  simp only [c1, decide_false, cond_false] at h0
  have k1 := szFlat_ok (Int.not_lt.1 c0) k0.1 (wt_sl (SHost.wt_Maps hwt)).1 (Int.not_lt.1 c1)
  by_cases c2 : laws_szTxQueue a.Tx (szFlat a.Maps (laws_szMemory a.Memory left)) < 0
  · simp only [c2, decide_true, cond_true] at h0; omega
  exact txSm_sz (SHost.wt_Tx hwt) (Int.not_lt.1 c1) k1.1 (Int.not_lt.1 c2)

def laws_FnExactHostOk_t {α : Type} (bad : α) (k_ : Bool → α) (aH : SHost) : α :=
  bif decide (laws_szHost aH 1048576 < 0) then k_ true
  else bif andt (andt true (laws_toHost_ok aH)) (hostSm (idf aH)) then
      bif andt true (laws_toHost_ok aH) then
        bif andt true (hostSm (idf aH)) then
          bif !((HostOk (idf aH)) == (HostOk (idf aH))) then k_ false
          else bif andt (andt true (laws_toHost_ok aH)) (same (idf aH) (idf aH)) then
              bif !(yes2 (idf aH) (idf aH)) then k_ false
              else k_ true
            else bad
        else bad
      else bad
    else bad
theorem laws_FnExactHostOk_c {α : Type} (bad : α) (k_ : Bool → α) (aH : SHost) (h_aH : WtL SHost.ct aH.enc) (hok : fitL (SHost.ct ++ ([])) (aH.enc ++ ([])) = true) : laws_FnExactHostOk_t bad k_ aH = k_ true := by
  unfold laws_FnExactHostOk_t
  by_cases c0 : laws_szHost aH 1048576 < 0
  · simp only [c0, decide_true, decide_false, cond_true, cond_false]
  have k0 := laws_szHost_ok h_aH (by omega) (by omega) (Int.not_lt.1 c0)
  have kh := hostSm_sz h_aH (by omega) (by omega) (Int.not_lt.1 c0)
  simp only [c0, decide_false, cond_false, cond_true, idf, k0.2, kh, andt_true_l, andt_true_r, same_refl, yes2, beq_self_eq_true, bne_self_eq_false, Bool.not_true, okm_tt]

end
end Go.Proofs.YtdlelfondkajbaaGreat.Pl
