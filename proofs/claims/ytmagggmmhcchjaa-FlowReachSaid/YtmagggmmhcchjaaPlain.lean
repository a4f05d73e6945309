/- Plain arithmetic of the layer 15 (flow): what Allow computes, and what the statements ask of it. No program is in sight here. -/
namespace Go.Proofs.Ytmagggmmhcchjaa

/-- What 'flow.Allow' computes. -/
def allowF (w s a : Int) : Int := max (min (min w 4) (32 - (if a < s then min (s - a) 32 else 0))) 0

/-- What the reference's 'ahead' computes: no more than 33, no less than 0. -/
def aheadF (s a : Int) : Int := max (min (s - a) 33) 0

theorem allow_ref (w s a : Int) : max (min (min w 4) (32 - aheadF s a)) 0 = allowF w s a := by
  unfold allowF aheadF; split <;> omega

theorem allow_bd (w s a : Int) : 0 ≤ allowF w s a ∧ allowF w s a ≤ 4 := by unfold allowF; omega

end Go.Proofs.Ytmagggmmhcchjaa
