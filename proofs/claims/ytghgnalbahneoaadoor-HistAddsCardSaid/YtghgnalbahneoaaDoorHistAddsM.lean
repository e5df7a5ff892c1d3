/- What Add, Merge and Coarse answer, as rows that read and a code (by program: wip/tools/gen_histadds.py). -/
import Derived.Test.YtghgnalbahneoaaDoorHist10
import Derived.Test.YtghgnalbahneoaaDoorHist12
import Derived.Test.YtghgnalbahneoaaDoorHist25
namespace Go.Proofs.YtghgnalbahneoaaDoor
open Go.RowKit

def addE (bs cs : List Int) (x t : Int) : Int := if t < 0 then 31 else if 1099511627776 < cs.getD (bucketF bs x) 0 + t then 10 else 0
def addB (bs cs : List Int) (x t : Int) : List Int := if addE bs cs x t = 0 then bs else []
def addC (bs cs : List Int) (x t : Int) : List Int := if addE bs cs x t = 0 then addAt cs (bucketF bs x) t else []
theorem add_reads {bs cs : List Int} {x t : Int} {B : Nat} {e : Ending} {W : World} (h : AddR bs cs x t B e W) : ∃ vb vc, e = .returned (.tuple #[hiV vb vc, .int .i64 (addE bs cs x t)]) ∧ OwnI W B vb (addB bs cs x t) ∧ OwnI W B vc (addC bs cs x t) := by
  rcases h with ⟨h, rfl⟩ | ⟨h1, h2, rfl⟩ | ⟨h1, h2, vb, vc, rfl, ho⟩
  · have e1 : addE bs cs x t = 31 := by unfold addE; rw [if_pos h]
    exact ⟨_, _, by rw [e1], by unfold addB; rw [e1]; exact OwnI.nil _ _, by unfold addC; rw [e1]; exact OwnI.nil _ _⟩
  · have e1 : addE bs cs x t = 10 := by unfold addE; rw [if_neg (by omega), if_pos h2]
    exact ⟨_, _, by rw [e1], by unfold addB; rw [e1]; exact OwnI.nil _ _, by unfold addC; rw [e1]; exact OwnI.nil _ _⟩
  · have e1 : addE bs cs x t = 0 := by unfold addE; rw [if_neg (by omega), if_neg (by omega)]
    exact ⟨_, _, by rw [e1], by unfold addB; rw [e1]; exact ho.b, by unfold addC; rw [e1]; exact ho.c⟩
open Classical in
noncomputable def mrgE (ba ca bb cb : List Int) : Int := if ba ≠ bb then 20 else if ∃ j, j < ca.length ∧ 1099511627776 < ca.getD j 0 + cb.getD j 0 then 10 else 0
noncomputable def mrgB (ba ca bb cb : List Int) : List Int := if mrgE ba ca bb cb = 0 then ba else []
noncomputable def mrgC (ba ca bb cb : List Int) : List Int := if mrgE ba ca bb cb = 0 then mrgF ca cb ca.length else []
theorem mrg_reads {ba ca bb cb : List Int} {B : Nat} {e : Ending} {W : World} (h : MergeR ba ca bb cb B e W) : ∃ vb vc, e = .returned (.tuple #[hiV vb vc, .int .i64 (mrgE ba ca bb cb)]) ∧ OwnI W B vb (mrgB ba ca bb cb) ∧ OwnI W B vc (mrgC ba ca bb cb) := by
  rcases h with ⟨h, rfl⟩ | ⟨h1, h2, rfl⟩ | ⟨h1, h2, vb, vc, rfl, ho⟩
  · have e1 : mrgE ba ca bb cb = 20 := by unfold mrgE; rw [if_pos h]
    exact ⟨_, _, by rw [e1], by unfold mrgB; rw [e1]; exact OwnI.nil _ _, by unfold mrgC; rw [e1]; exact OwnI.nil _ _⟩
  · have e1 : mrgE ba ca bb cb = 10 := by unfold mrgE; rw [if_neg (fun h => h h1), if_pos h2]
    exact ⟨_, _, by rw [e1], by unfold mrgB; rw [e1]; exact OwnI.nil _ _, by unfold mrgC; rw [e1]; exact OwnI.nil _ _⟩
  · have e1 : mrgE ba ca bb cb = 0 := by
      unfold mrgE
      rw [if_neg (fun h => h h1), if_neg]
      rintro ⟨j, hj, hlt⟩
      have := h2 j hj
      omega
    exact ⟨_, _, by rw [e1], by unfold mrgB; rw [e1]; exact ho.b, by unfold mrgC; rw [e1]; exact ho.c⟩
open Classical in
noncomputable def crsE (keep bs cs : List Int) : Int := if ¬ KeepOk keep bs then 20 else if ∃ j, 1099511627776 < (crsF keep bs cs cs.length).getD j 0 then 10 else 0
noncomputable def crsB (keep bs cs : List Int) : List Int := if crsE keep bs cs = 0 then keep else []
noncomputable def crsC (keep bs cs : List Int) : List Int := if crsE keep bs cs = 0 then crsF keep bs cs cs.length else []
theorem crs_reads {keep bs cs : List Int} {B : Nat} {e : Ending} {W : World} (h : CoarseR keep bs cs B e W) : ∃ vb vc, e = .returned (.tuple #[hiV vb vc, .int .i64 (crsE keep bs cs)]) ∧ OwnI W B vb (crsB keep bs cs) ∧ OwnI W B vc (crsC keep bs cs) := by
  rcases h with ⟨h, rfl⟩ | ⟨h1, h2, rfl⟩ | ⟨h1, h2, vb, vc, rfl, ho⟩
  · have e1 : crsE keep bs cs = 20 := by unfold crsE; rw [if_pos h]
    exact ⟨_, _, by rw [e1], by unfold crsB; rw [e1]; exact OwnI.nil _ _, by unfold crsC; rw [e1]; exact OwnI.nil _ _⟩
  · have e1 : crsE keep bs cs = 10 := by unfold crsE; rw [if_neg (fun h => h h1), if_pos h2]
    exact ⟨_, _, by rw [e1], by unfold crsB; rw [e1]; exact OwnI.nil _ _, by unfold crsC; rw [e1]; exact OwnI.nil _ _⟩
  · have e1 : crsE keep bs cs = 0 := by
      unfold crsE
      rw [if_neg (fun h => h h1), if_neg]
      rintro ⟨j, hlt⟩
      have := h2 j
      omega
    exact ⟨_, _, by rw [e1], by unfold crsB; rw [e1]; exact ho.b, by unfold crsC; rw [e1]; exact ho.c⟩

end Go.Proofs.YtghgnalbahneoaaDoor
