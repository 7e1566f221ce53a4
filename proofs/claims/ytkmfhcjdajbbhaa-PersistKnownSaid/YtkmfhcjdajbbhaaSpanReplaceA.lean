/-
  slices.Replace at []api.Range by one range, wherever.
-/
import Derived.Test.YtkmfhcjdajbbhaaSpanReplace
namespace Go.Proofs.Ytkmfhcjdajbbhaa
set_option linter.unusedSimpArgs false
set_option linter.unusedVariables false
open Go.RowKit

set_option maxRecDepth 100000 in
set_option maxHeartbeats 400000 in
/-- slices.Replace by one range, wherever. -/
theorem replace_any (base n c xb f t : Nat) (v : Value) (rs : List Rg) (x : Rg) (w : World) (hn : rs.length = n) (hown : w.ownsRow base 62 2 v n (rgsCells rs)) (hx : Blk w xb 62 #[.int .i64 x.lo, .int .i64 x.hi]) (hne : v.ownBlock ≠ some xb) (hl : n ≤ 1000) (hb : base ≤ w.heap.size) (hf : f ≤ t) (ht : t ≤ n) :
    Calls Try.prog 46 #[v, .int .i64 f, .int .i64 t, .slice (some ⟨xb, 0, none⟩) 1 c] w (RgPost w base v (rs.take f ++ x :: rs.drop t)) := by
  rcases Nat.lt_or_ge f t with hlt | hge
  · rcases own_split hown with ⟨_, h0, _⟩ | ⟨g, cap, cur, rfl, hg, hB, hc, hm, hcl, htk⟩
    · omega
    · rcases Nat.lt_or_ge t n with h1 | h1
      · obtain ⟨d, rfl⟩ : ∃ d, n = t + d := ⟨n - t, by omega⟩
        exact replace_mid base (t + d) c xb f t d g cap cur rs x w hn hg hB hc hm hcl htk hx hl hlt rfl (by omega)
      · obtain rfl : t = n := by omega
        exact replace_end base t c xb f g cap cur rs x w hn hg hB hc hm hcl htk hx hl hlt
  · obtain rfl : f = t := by omega
    have HI := hide (insert_any base n c xb f v rs x w hn hown hx hne hl hb ht)
    rcases own_split hown with ⟨rfl, h0, _⟩ | ⟨g, cap, cur, rfl, hg, hB, hc, hm, hcl, htk⟩
    · have hf0 : (0 : Int) ≤ (f : Int) := by omega
      have hf1 : (f : Int) ≤ 0 := by omega
      clear hn hown h0
      go_enter Try.func46, Try.ntmps46
      go_wp2_with fail
      refine HI.out.mono ?_
      rintro e w1 ⟨v1, rfl, h1, h2, h3⟩
      go_wp2_with fail
      go_ret
      exact ⟨v1, rfl, h1, h2, h3⟩
    · unfold maxLen at hm
      have hf0 : (0 : Int) ≤ (f : Int) := by omega
      have hf1 : (f : Int) ≤ (n : Int) := by omega
      clear hn hown hB hcl htk
      rcases Nat.lt_or_ge f cap with hfc | hfc
      · have hcf : ¬ (cap = f) := by omega
        go_enter Try.func46, Try.ntmps46
        go_wp2_with fail
        refine HI.out.mono ?_
        rintro e w1 ⟨v1, rfl, h1, h2, h3⟩
        go_wp2_with fail
        go_ret
        exact ⟨v1, rfl, h1, h2, h3⟩
      · obtain rfl : cap = f := by omega
        go_enter Try.func46, Try.ntmps46
        go_wp2_with fail
        refine HI.out.mono ?_
        rintro e w1 ⟨v1, rfl, h1, h2, h3⟩
        go_wp2_with fail
        go_ret
        exact ⟨v1, rfl, h1, h2, h3⟩
end Go.Proofs.Ytkmfhcjdajbbhaa
