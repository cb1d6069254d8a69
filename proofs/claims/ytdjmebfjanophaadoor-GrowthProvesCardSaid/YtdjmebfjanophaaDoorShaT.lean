/- The hash of "abc". -/
import Derived.Test.YtdjmebfjanophaaDoorShaP
namespace Go.Proofs.YtdjmebfjanophaaDoor.Sha
/-- All rounds, the window carried along. -/
def fast : Nat → List UInt32 → W8 → Nat → W8
  | 0, _, s, _ => s
  | n + 1, w, s, t => fast n (w.drop 1 ++ [nxt w]) (rnd s (kk t) (w.getD 0 0)) (t + 1)
theorem fast_comp (m : List UInt32) (s : W8) : ∀ n t, fast n (win m t) (comp m s t) t = comp m s (t + n)
  | 0, t => rfl
  | n + 1, t => by
    rw [fast, show (win m t).drop 1 ++ [nxt (win m t)] = win m (t + 1) from rfl, show rnd (comp m s t) (kk t) ((win m t).getD 0 0) = comp m s (t + 1) from rfl, fast_comp m s n (t + 1), show t + 1 + n = t + (n + 1) by omega]
theorem blk_fast (s : W8) (b : List UInt8) : blk s b = s.add (fast 64 (words b) s 0) := by
  have := fast_comp (words b) s 64 0
  rw [blk, show (fast 64 (words b) s 0) = comp (words b) s (0 + 64) from this]
set_option maxRecDepth 100000 in
theorem abc : blk begin0 (pad [97, 98, 99]) = ⟨3128432319, 2399260650, 1094795486, 1571693091, 2953011619, 2518121116, 3021012833, 4060091821⟩ := by
  rw [blk_fast]
  kernel_rfl
end Go.Proofs.YtdjmebfjanophaaDoor.Sha
