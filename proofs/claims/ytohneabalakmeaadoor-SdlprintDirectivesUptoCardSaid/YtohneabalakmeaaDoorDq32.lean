/- Parts of a proof, merged by a program (shake.py). -/
import Derived.Test.YtohneabalakmeaaDoorDq31
namespace Go.Proofs.YtohneabalakmeaaDoor
open Go.RowKit
attribute [local irreducible] wpList Calls Code.wp AW AWo OpOk seqK blockK scopeK loopK endK AC absLex Yld Sub
def tx (s : ByteArray) : List UInt8 := s.data.toList
theorem bs_tx (s : ByteArray) : bs (tx s) = s := bs_of s
theorem tx_size (s : ByteArray) : (tx s).length = s.size := rfl
theorem lit_size (a : Array UInt8) : (⟨a⟩ : ByteArray).size = a.size := rfl
theorem bs_nil : bs [] = ByteArray.empty := rfl
def inputB (n rt vt dt : List UInt8) (h : Bool) : List UInt8 := n ++ [58, 32] ++ rt ++ (if h then [32, 61, 32] ++ vt else []) ++ dt
set_option maxRecDepth 100000 in
theorem inputP_ac (x : D) (rt vt dt : List UInt8) (h1 : AC EN Tryd.prog 150 [.agg [.c (.string ((x.f 1).f 0).s), .sl 3 ((x.f 1).f 1).l]] (.c (.string (bs rt)))) (h2 : (x.f 2).b = true → AC EN Tryd.prog 42 [.agg (cellsV Tryd.prog 12 49 (x.f 3))] (.c (.string (bs vt))))
    (h3 : AC EN Tryd.prog 115 [.sl 101 (x.f 4).l] (.c (.string (bs dt)))) (hs : (x.f 0).s.size + rt.length + vt.length + dt.length ≤ 1000000000) :
    AC EN Tryd.prog 117 [.agg (cellsV Tryd.prog 12 132 x)] (.c (.string (bs (inputB (tx (x.f 0).s) rt vt dt (x.f 2).b)))) := by
  refine ac_enter 24 Tryd.func117 rfl rfl rfl rfl ?_
  intro s w he
  repeat' (first
    | refine aw_seq ?_
    | refine aw_region ?_
    | refine awo_nil ?_
    | refine k_seq ?_
    | refine k_block ?_
    | refine k_scope ?_
    | refine aw_block ?_
    | refine aw_skip ?_
    | refine aw_label ?_
    | refine aw_scope ?_
    | (apply s_val rfl
       · conv => lhs; whnf
       · conv => lhs; whnf; arg 2; whnf)
    | (apply s_call rfl
       · conv => lhs; whnf
       · conv => lhs; whnf
       · first | exact h1 | exact h2 (by assumption) | exact h3)
    | (apply s_box rfl rfl rfl rfl
       · conv => lhs; whnf; arg 1; whnf
       · rfl)
    | (apply aw_draw (by kernel_rfl) (by kernel_rfl))
    | apply y_nil
    | (apply y_val rfl
       · conv => lhs; whnf
       · conv => lhs; whnf; arg 2; whnf)
    | (apply y_call rfl
       · conv => lhs; whnf
       · conv => lhs; whnf
       · first | exact h1 | exact h2 (by assumption) | exact h3)
    | exact apartB_none
    | exact apartB_nil
    | exact all_nil
    | (show List.all _ _ = true; rfl)
    | (show apartB _ _ = true; rfl)
    | exact ([] : List Nat)
    | exact (1000000 : Nat)
    | (apply aw_cond_t
       · conv => lhs; whnf; arg 1; arg 1; whnf)
    | (apply aw_cond_f
       · conv => lhs; whnf; arg 1; arg 1; whnf)
    | (refine aw_cond (by conv => lhs; whnf) ?_ ?_ <;> intro hb)
    | refine aw_ret ?_
    | refine aw_exit ?_
    | refine k_seq_exit ?_
    | refine k_seq_ret ?_
    | refine k_block_ret ?_
    | refine k_block_hit rfl ?_
    | refine k_block_miss rfl ?_
    | refine k_scope_exit ?_
    | refine k_scope_ret ?_
    | refine k_loop_exit ?_
    | refine k_loop_ret ?_
    | refine k_end ?_
    | refine k_end_ret ?_
    | (refine ⟨_, by conv => lhs; whnf; arg 2; whnf, ?_⟩; conv => rhs; whnf)
    | exact trivial
    | intro hg)
  all_goals first
    | (simp only [ByteArray.size_append, bs_size, lit_size, List.size_toArray, List.length_append, List.length_cons, List.length_nil, maxLen, Nat.reduceAdd, Int.toNat_natCast]; omega)
    | (simp only [lit_bs, inputB, hb, ← bs_append, bs_tx, if_true, if_false, Bool.false_eq_true, ↓reduceIte, ByteArray.append_assoc, bs_nil, ByteArray.append_empty]; done)
end Go.Proofs.YtohneabalakmeaaDoor
