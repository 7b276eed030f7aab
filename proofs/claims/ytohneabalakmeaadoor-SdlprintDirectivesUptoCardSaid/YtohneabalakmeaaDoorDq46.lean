/- Parts of a proof, merged by a program (shake.py). -/
import Derived.Test.YtohneabalakmeaaDoorDq45
namespace Go.Proofs.YtohneabalakmeaaDoor
open Go.RowKit
attribute [local irreducible] wpList Calls Code.wp AW AWo OpOk seqK blockK scopeK loopK endK AC absLex Yld Sub
def textD (s : ByteArray) : D := .obj [.int 3, .int 0, .str s, .list [], .list []]
set_option maxRecDepth 100000 in
theorem text_ac (s : ByteArray) : AC EN Tryd.prog 75 [.c (.string s)] (.agg (cellsV Tryd.prog 12 49 (textD s))) := by
  refine AC.res (r := .agg [.c (.int .i64 3), .c (.int .i64 0), .c (.string s), .c (.slice none 0 0), .c (.slice none 0 0)]) ?_ (VLe.agg (VLeL.cons (VLe.refl _) (VLeL.cons (VLe.refl _) (VLeL.cons (VLe.refl _) (VLeL.cons (VLe.nil _) (VLeL.cons (VLe.nil _) VLeL.nil))))))
  refine ac_enter 5 Tryd.func75 rfl rfl rfl rfl ?_
  intro s w he
  repeat' (first
    | refine aw_seq ?_
    | refine aw_region ?_
    | refine awo_nil ?_
    | refine k_seq ?_
    | refine k_block ?_
    | refine k_scope ?_
    | refine aw_block ?_
    | refine aw_skip ?_
    | refine aw_label ?_
    | refine aw_scope ?_
    | (apply s_val rfl
       · conv => lhs; whnf
       · conv => lhs; whnf; arg 2; whnf)
    | (apply s_alloc rfl rfl rfl rfl
       · conv => lhs; whnf; arg 1; whnf
       · rfl)
    | (apply s_store rfl rfl rfl
       · conv => lhs; whnf
       · conv => lhs; whnf; arg 1; whnf
       · conv => lhs; whnf; arg 1; whnf
       · exact ⟨by kernel_rfl, by kernel_rfl⟩
       · rfl)
    | (apply aw_cond_t
       · conv => lhs; whnf; arg 1; arg 1; whnf)
    | (apply aw_cond_f
       · conv => lhs; whnf; arg 1; arg 1; whnf)
    | (refine aw_cond (by conv => lhs; whnf) ?_ ?_ <;> intro hb)
    | refine aw_ret ?_
    | refine aw_exit ?_
    | refine k_seq_exit ?_
    | refine k_seq_ret ?_
    | refine k_block_ret ?_
    | refine k_block_hit rfl ?_
    | refine k_block_miss rfl ?_
    | refine k_scope_exit ?_
    | refine k_scope_ret ?_
    | refine k_loop_exit ?_
    | refine k_loop_ret ?_
    | refine k_end ?_
    | refine k_end_ret ?_
    | (refine ⟨_, by conv => lhs; whnf; arg 2; whnf, ?_⟩; conv => rhs; whnf)
    | exact trivial
    | intro hg)
  rfl
def exFld : D := .obj [.str ⟨#[120]⟩, .list [], .obj [.str ⟨#[73, 110, 116]⟩, .list []], .list []]
def exDef : D := .obj [.int 1, .str ⟨#[84]⟩, .list [], .list [], .list [exFld], .list [], .list []]
def exDoc : D := .obj [.list [exDef]]
set_option maxRecDepth 100000 in
theorem exRef_fits : Fits Tryd.prog 13 42 exDoc := fitsB_ok (by kernel_rfl)
set_option maxRecDepth 100000 in
theorem exFld_ok : FldOk 12 exFld := ⟨fitsB_ok (by kernel_rfl), no_lt rfl, no_lt rfl, no_lt rfl⟩
set_option maxRecDepth 100000 in
theorem exDef_ok : DefOk 12 exDef :=
  ⟨fitsB_ok (by kernel_rfl), by decide, no_lt rfl, no_lt rfl, fun i hi => by
    have e : i = 0 := by have : i < 1 := hi; omega
    subst e; exact exFld_ok, no_lt rfl, no_lt rfl⟩
set_option maxRecDepth 100000 in
theorem exDoc_ok : ∀ i, i < (exDoc.f 0).l.length → DefOk 12 (gD (exDoc.f 0).l i) := fun i hi => by
  have e : i = 0 := by have : i < 1 := hi; omega
  subst e; exact exDef_ok
set_option maxRecDepth 100000 in
theorem eq_lit {l : List UInt8} {a : ByteArray} (h : bs l = a) : ((bs l).toList == a.toList) = true := by rw [h]; simp
set_option maxRecDepth 100000 in
theorem exam_ac : AC EN Tryd.prog 41 [] (.c (.bool true)) := by
  have h1 : AC EN Tryd.prog 48 [.agg (cellsV Tryd.prog 12 42 exDoc)] (.c (.string (bs (docT 12 exDoc)))) := docP exDoc_ok (by decide)
  have h2 : AC EN Tryd.prog 50 [.agg (cellsV Tryd.prog 12 42 exDoc), .agg (cellsV Tryd.prog 12 42 exDoc)] (.c (.bool (docEq 12 exDoc exDoc))) := sameDoc_ac exDoc exDoc ⟨exRef_fits, by decide⟩ ⟨exRef_fits, by decide⟩
  have h3 := text_ac ⟨#[97]⟩
  have h4 : AC EN Tryd.prog 42 [.agg (cellsV Tryd.prog 12 49 (textD ⟨#[97]⟩))] (.c (.string (bs (valF 12 (textD ⟨#[97]⟩))))) := value_ac 12 _ (fitsB_ok (by kernel_rfl)) ⟨by decide, no_lt rfl⟩ (by decide)
  refine ac_enter 21 Tryd.func41 rfl rfl rfl rfl ?_
  intro s w he
  repeat' (first
    | (apply s_valW (.agg (cellsV Tryd.prog 12 64 exFld)) rfl rfl
       · conv => lhs; whnf; arg 2; whnf
       · repeat' (first | exact VLe.refl _ | exact VLe.nil _ | exact VLe.lit _ _ | apply VLe.agg | apply VLeL.cons | exact VLeL.nil))
    | (apply s_valW (.agg (cellsV Tryd.prog 12 58 exDef)) rfl rfl
       · conv => lhs; whnf; arg 2; whnf
       · repeat' (first | exact VLe.refl _ | exact VLe.nil _ | exact VLe.lit _ _ | apply VLe.agg | apply VLeL.cons | exact VLeL.nil))
    | (apply s_valW (.agg (cellsV Tryd.prog 12 42 exDoc)) rfl rfl
       · conv => lhs; whnf; arg 2; whnf
       · repeat' (first | exact VLe.refl _ | exact VLe.nil _ | exact VLe.lit _ _ | apply VLe.agg | apply VLeL.cons | exact VLeL.nil))
    | (apply s_lit [exFld] rfl rfl
       · conv => lhs; whnf
       · first | (conv => lhs; whnf; arg 1; whnf)
       · rfl
       · rfl
       · repeat' (first | exact trivial | apply And.intro | rfl))
    | (apply s_lit [exDef] rfl rfl
       · conv => lhs; whnf
       · first | (conv => lhs; whnf; arg 1; whnf)
       · rfl
       · rfl
       · repeat' (first | exact trivial | apply And.intro | rfl))
    | refine aw_seq ?_
    | refine aw_region ?_
    | refine awo_nil ?_
    | refine k_seq ?_
    | refine k_block ?_
    | refine k_scope ?_
    | refine aw_block ?_
    | refine aw_skip ?_
    | refine aw_label ?_
    | refine aw_scope ?_
    | (apply s_pick_t rfl rfl
       · conv => lhs; whnf
       · conv => lhs; whnf
       · first | exact bT1 (by assumption) | exact bT2 (by assumption))
    | (apply s_pick_f rfl rfl
       · conv => lhs; whnf
       · conv => lhs; whnf
       · first | exact bF1 (by assumption) | exact bF2 (by assumption))
    | (apply s_val rfl
       · conv => lhs; whnf
       · conv => lhs; whnf; arg 2; whnf)
    | (apply s_call rfl
       · conv => lhs; whnf
       · conv => lhs; whnf
       · first | exact h1 | exact h2 | exact h3 | exact h4)
    | (apply s_alloc rfl rfl rfl rfl
       · conv => lhs; whnf; arg 1; whnf
       · rfl)
    | (apply s_store rfl rfl rfl
       · conv => lhs; whnf
       · conv => lhs; whnf; arg 1; whnf
       · conv => lhs; whnf; arg 1; whnf
       · exact ⟨by kernel_rfl, by kernel_rfl⟩
       · rfl)
    | (apply s_lit0 rfl rfl
       · conv => lhs; whnf
       · first | (conv => lhs; whnf; arg 1; whnf))
    | (apply s_lit1 rfl rfl
       · conv => lhs; whnf
       · first | (conv => lhs; whnf; arg 1; whnf)
       · conv => lhs; whnf; arg 1; whnf
       · rfl
       · rfl)
    | (apply s_wanted_val rfl
       · conv => lhs; whnf
       · conv => lhs; whnf
       · first | rfl | assumption
       · conv => lhs; whnf; arg 2; whnf)
    | (apply s_wanted_call rfl
       · conv => lhs; whnf
       · conv => lhs; whnf
       · first | rfl | assumption
       · conv => lhs; whnf
       · first | exact h1 | exact h2 | exact h3 | exact h4)
    | (apply s_skip rfl
       · conv => lhs; whnf
       · conv => lhs; whnf
       · first | rfl | assumption)
    | (apply s_guard_val rfl
       · conv => lhs; whnf
       · conv => lhs; whnf
       · conv => lhs; whnf; arg 2; whnf)
    | (apply s_guard_call rfl
       · conv => lhs; whnf
       · conv => lhs; whnf
       · conv => lhs; whnf
       · first | exact h1 | exact h2 | exact h3 | exact h4)
    | (apply aw_cond_t
       · conv => lhs; whnf; arg 1; arg 1; whnf)
    | (apply aw_cond_f
       · conv => lhs; whnf; arg 1; arg 1; whnf)
    | (refine aw_cond (by conv => lhs; whnf) ?_ ?_ <;> intro hb)
    | refine aw_ret ?_
    | refine aw_exit ?_
    | refine k_seq_exit ?_
    | refine k_seq_ret ?_
    | refine k_block_ret ?_
    | refine k_block_hit rfl ?_
    | refine k_block_miss rfl ?_
    | refine k_scope_exit ?_
    | refine k_scope_ret ?_
    | refine k_loop_exit ?_
    | refine k_loop_ret ?_
    | refine k_end ?_
    | refine k_end_ret ?_
    | (refine ⟨_, by conv => lhs; whnf; arg 2; whnf, ?_⟩; conv => rhs; whnf)
    | exact trivial
    | intro hg)
  · have e : bs (valF 12 (textD ⟨#[97]⟩)) = ⟨#[34, 97, 34]⟩ := by kernel_rfl
    rw [eq_lit e]
  · have e : docEq 12 exDoc exDoc = true := by kernel_rfl
    have h : (docEq 12 exDoc exDoc == true) = false := by assumption
    rw [e] at h; exact absurd h (by decide)
  · have e : bs (docT 12 exDoc) = ⟨#[116, 121, 112, 101, 32, 84, 32, 123, 10, 32, 32, 120, 58, 32, 73, 110, 116, 10, 125, 10]⟩ := by kernel_rfl
    have h : (((bs (docT 12 exDoc)).toList == (⟨#[116, 121, 112, 101, 32, 84, 32, 123, 10, 32, 32, 120, 58, 32, 73, 110, 116, 10, 125, 10]⟩ : ByteArray).toList) == true) = false := by assumption
    rw [eq_lit e] at h; exact absurd h (by decide)
end Go.Proofs.YtohneabalakmeaaDoor
