/- Parts of a proof, merged by a program (shake.py). -/
import Derived.Laws.StructEq
import Derived.Test.YtdklhkdlndlgnaaGreatDoorQ5
set_option linter.unusedVariables false
set_option linter.unusedSimpArgs false
namespace Go.Proofs.YtdklhkdlndlgnaaGreatDoor
open Go.RowKit
inductive A1 where
  | val (p : Prop) (v : V)
  | call (f : FuncId) (args : List V)
  | bad
def okB : Value → Bool
  | .int k n => (Lit.int k n).wf
  | .string s => decide (s.size ≤ maxLen)
  | .agg _ => false
  | .tuple _ => false
  | _ => true
theorem okB_ok {v : Value} (h : okB v = true) : okV v := by
  cases v <;> simp_all [okB, okV]
def constV : Value → V
  | .agg cs => if cs.toList.all okB then .agg (cs.toList.map .c) else .any
  | v => if okB v then .c v else .any
def bin1 (P : Program) (op : BinOp) (t : TypeId) : V → V → A1
  | .c (.int k a), .c (.int k' b) =>
    if k = k' then
      match op with
      | .add => .val (k.min ≤ a + b ∧ a + b ≤ k.max) (.c (.int k (a + b)))
      | .sub => .val (k.min ≤ a - b ∧ a - b ≤ k.max) (.c (.int k (a - b)))
      | .mul => .val (k.min ≤ a * b ∧ a * b ≤ k.max) (.c (.int k (a * b)))
      | .quo => .val (b ≠ 0 ∧ k.min ≤ a.tdiv b ∧ a.tdiv b ≤ k.max) (.c (.int k (a.tdiv b)))
      | .rem => .val (b ≠ 0 ∧ k.min ≤ a.tmod b ∧ a.tmod b ≤ k.max) (.c (.int k (a.tmod b)))
      | .eql => .val True (.c (.bool (a == b)))
      | .neq => .val True (.c (.bool (a != b)))
      | .lss => .val True (.c (.bool (decide (a < b))))
      | .leq => .val True (.c (.bool (decide (a ≤ b))))
      | .gtr => .val True (.c (.bool (decide (a > b))))
      | .geq => .val True (.c (.bool (decide (a ≥ b))))
      | _ => .bad
    else .bad
  | .c (.string x), .c (.string y) =>
    match op with
    | .add => .val (x.size + y.size ≤ maxLen) (.c (.string (x ++ y)))
    | .eql => .val True (.c (.bool (x.toList == y.toList)))
    | .neq => .val True (.c (.bool (!(x.toList == y.toList))))
    | .lss => .val True (.c (.bool (Op.bytesLess x.toList y.toList)))
    | .leq => .val True (.c (.bool (Op.bytesLess x.toList y.toList || x.toList == y.toList)))
    | .gtr => .val True (.c (.bool (!(Op.bytesLess x.toList y.toList || x.toList == y.toList))))
    | .geq => .val True (.c (.bool (!(Op.bytesLess x.toList y.toList))))
    | _ => .bad
  | .c (.bool x), .c (.bool y) =>
    match op with
    | .eql => .val (P.underlying t = some .bool) (.c (.bool (x == y)))
    | .neq => .val (P.underlying t = some .bool) (.c (.bool (!(x == y))))
    | _ => .bad
  | _, _ => .bad
/-- structs of plain values, field by field -/
def eqFlds (P : Program) (vs us : List V) : List Field → Option Bool
  | [] => some true
  | f :: fs =>
    if f.name = "_" then none else
    match part? P f.type vs f.offset, part? P f.type us f.offset, P.underlying f.type with
    | some (.c (.int k a)), some (.c (.int k' b)), some (.int _) => if k = k' then (eqFlds P vs us fs).map ((a == b) && ·) else none
    | some (.c (.bool a)), some (.c (.bool b)), some .bool => (eqFlds P vs us fs).map ((a == b) && ·)
    | some (.c (.string a)), some (.c (.string b)), some .string => (eqFlds P vs us fs).map ((a.toList == b.toList) && ·)
    | _, _, _ => none
def bin2 (P : Program) (op : BinOp) (t : TypeId) : V → V → A1
  | .agg vs, .agg us =>
    match eqFlds P vs us (P.fieldsOf t).toList, op with
    | some b, .eql => .val (P.stoodInHeld t = false ∧ P.eqGuardType P.depth t = false ∧ P.underlying t = some (.struct (P.fieldsOf t))) (.c (.bool b))
    | some b, .neq => .val (P.stoodInHeld t = false ∧ P.eqGuardType P.depth t = false ∧ P.underlying t = some (.struct (P.fieldsOf t))) (.c (.bool (!b)))
    | _, _ => .bad
  | x, y => bin1 P op t x y
def un1 (op : UnOp) : V → A1
  | .c (.bool b) => match op with | .not => .val True (.c (.bool (!b))) | _ => .bad
  | .c (.int k n) => match op with | .neg => .val (k.min ≤ -n ∧ -n ≤ k.max) (.c (.int k (-n))) | _ => .bad
  | _ => .bad
def pick1 : V → V → V → A1
  | .c (.bool b), .c (.bool x), .c (.bool y) => .val True (.c (.bool (bif b then x else y)))
  | .c (.bool true), x, _ => .val True x
  | .c (.bool false), _, y => .val True y
  | _, _, _ => .bad
def off? (P : Program) (t : TypeId) (f : Nat) : Option Nat :=
  match P.underlying t with
  | some (.struct fs) => match fs[f]? with | some g => if P.cellsOf g.type = 0 ∨ (P.info? g.type).isNone then none else some g.offset | none => none
  | _ => none
def fieldAddr1 (P : Program) (t : TypeId) (f : Nat) : V → A1
  | .at t' d o => match off? P t f with | some q => .val True (.at t' d (o + q)) | none => .bad
  | .bx n o => match off? P t f with | some q => .val True (.bx n (o + q)) | none => .bad
  | _ => .bad
def ofPart : Option V → A1
  | some v => .val True v
  | none => .bad
def load1 (P : Program) (rs : Nat → Option Res) (t : TypeId) : V → A1
  | .at t' d o => if layB P 12 t' then ofPart (part? P t (cellsV P 12 t' d) o) else .bad
  | .bx n o => match rs n with | some (.box _ vs) => ofPart (part? P t vs o) | _ => .bad
  | _ => .bad
def fieldT (P : Program) (t : TypeId) (f : Nat) : Option (TypeId × Nat) :=
  match P.underlying t with
  | some (.struct fs) => (fs[f]?).map fun g => (g.type, g.offset)
  | _ => none
def field1 (P : Program) (t : TypeId) (f : Nat) : V → A1
  | .agg vs => match fieldT P t f with | some (u, o) => ofPart (part? P u vs o) | none => .bad
  | _ => .bad
def sliceOf (P : Program) (t : TypeId) : Option TypeId := match P.underlying t with | some (.slice e) => some e | _ => none
def indexAddr1 (P : Program) (t : TypeId) : V → V → A1
  | .sl e l, .c (.int _ i) => if sliceOf P t = some e ∧ 0 < P.cellsOf e ∧ (P.info? e).isSome then .val (0 ≤ i ∧ i < l.length) (.at e (gD l i.toNat) 0) else .bad
  | _, _ => .bad
def byteAt (s : ByteArray) (i : Nat) : Int := (s.data.toList.getD i 0).toNat
def index1 (P : Program) (t : TypeId) : V → V → A1
  | .c (.string s), .c (.int _ i) => .val (P.underlying t = some .string ∧ 0 ≤ i ∧ i < s.size) (.c (.int .u8 (byteAt s i.toNat)))
  | _, _ => .bad
def conv1 (P : Program) (src dst : TypeId) : V → A1
  | .c (.int _ n) => match P.underlying src, P.underlying dst with | some _, some (.int k) => .val (k.min ≤ n ∧ n ≤ k.max) (.c (.int k n)) | _, _ => .bad
  | .c (.string s) => match P.underlying src, P.underlying dst with | some .string, some .string => .val True (.c (.string s)) | _, _ => .bad
  | _ => .bad
def extract1 (i : Nat) : V → A1
  | .tup vs => ofPart vs[i]?
  | _ => .bad
def len1 (P : Program) (t : TypeId) : V → A1
  | .c (.string s) => .val (P.underlying t = some .string) (.c (.int .i64 s.size))
  | .sl _ l => if (sliceOf P t).isSome then .val True (.c (.int .i64 l.length)) else .bad
  | .c (.slice _ n _) => if (sliceOf P t).isSome then .val (n ≤ maxLen) (.c (.int .i64 n)) else .bad
  | _ => .bad
def slice1 (P : Program) (t : TypeId) : V → Option V → Option V → A1
  | .c (.string s), lo, hi =>
    match lo, hi with
    | none, none => .val (P.underlying t = some .string) (.c (.string (s.extract 0 s.size)))
    | some (.c (.int _ l)), none => .val (P.underlying t = some .string ∧ 0 ≤ l ∧ l ≤ s.size) (.c (.string (s.extract l.toNat s.size)))
    | none, some (.c (.int _ h)) => .val (P.underlying t = some .string ∧ 0 ≤ h ∧ h ≤ s.size) (.c (.string (s.extract 0 h.toNat)))
    | some (.c (.int _ l)), some (.c (.int _ h)) => .val (P.underlying t = some .string ∧ 0 ≤ l ∧ l ≤ h ∧ h ≤ s.size) (.c (.string (s.extract l.toNat h.toNat)))
    | _, _ => .bad
  | .sl e l, lo, hi =>
    if sliceOf P t = some e ∧ (P.info? e).isSome then
      match lo, hi with
      | some (.c (.int _ a)), none => .val (0 ≤ a ∧ a ≤ l.length) (.sl e (l.drop a.toNat))
      | none, some (.c (.int _ b)) => .val (0 ≤ b ∧ b ≤ l.length) (.sl e (l.take b.toNat))
      | some (.c (.int _ a)), some (.c (.int _ b)) => .val (0 ≤ a ∧ a ≤ b ∧ b ≤ l.length) (.sl e ((l.take b.toNat).drop a.toNat))
      | _, _ => .bad
    else .bad
  | _, _, _ => .bad
/-- the function that a call enters -/
def entered (P : Program) (f : FuncId) : Bool := match P.funcs[f]? with | some fn => fn.name != "runtime.NumGoroutine" && fn.body.isSome | none => false
def call1 (P : Program) (ea : Operand → V) (c : Call) : A1 :=
  match c.callee with
  | .value (.func f) => if entered P f then .call f (c.args.toList.map ea) else .bad
  | .value x => match ea x with | .c (.func (.func f) fs cs) => if entered P f && fs.isEmpty && cs.isEmpty then .call f (c.args.toList.map ea) else .bad | .clo f vs => if entered P f then .call f (c.args.toList.map ea ++ vs) else .bad | _ => .bad
  | .builtin .len => match c.args.toList, c.argTypes.toList with | [x], [t] => len1 P t (ea x).out | _, _ => .bad
  | .builtin .min => match c.args.toList with | [x, y] => (match ea x, ea y with | .c (.int k a), .c (.int k' b) => if k = k' then .val True (.c (.int k (if b < a then b else a))) else .bad | _, _ => .bad) | _ => .bad
  | _ => .bad
/-- a value of one cell -/
def V.leaf : V → Bool
  | .any => false
  | .agg _ => false
  | .tup _ => false
  | _ => true
def cellsOf (v : V) : Option (List V) :=
  match v with
  | .agg vs => if vs.all V.leaf then some vs else none
  | v => if v.leaf then some [v] else none
/-- the zero value's cells -/
def zeroV (P : Program) (t : TypeId) : Option (List V) :=
  match (P.info? t).bind (·.zero) with
  | some z => if z.cells.toList.all okB then some (z.cells.toList.map .c) else none
  | none => none
def splice (vs : List V) (off : Nat) (xs : List V) : List V := vs.take off ++ xs ++ vs.drop (off + xs.length)
/-- a struct's literal -/
def fillV (P : Program) (fs : Array Field) : List V → List (Nat × V) → Option (List V)
  | z, [] => some z
  | z, (i, v) :: ps =>
    match fs[i]?, cellsOf v with
    | some f, some xs => if xs.length = P.cellsOf f.type ∧ f.offset + xs.length ≤ z.length then fillV P fs (splice z f.offset xs) ps else none
    | _, _ => none
def build1 (P : Program) (t : TypeId) (ps : List (Nat × V)) : A1 :=
  match P.underlying t, zeroV P t with
  | some (.struct fs), some z => if fs.toList.all (fun f => (P.info? f.type).isSome) then ofPart ((fillV P fs z ps).map .agg) else .bad
  | _, _ => .bad
/-- an address is no nil -/
def nil1 : V → A1
  | .at t d o => .val True (.at t d o)
  | .bx n o => .val True (.bx n o)
  | _ => .bad
def allC : List V → Option (List Value)
  | [] => some []
  | .c v :: r => (allC r).map (v :: ·)
  | _ => none
/-- a struct of plain values within an interface -/
def iface1 (P : Program) (t : TypeId) : V → A1
  | .agg vs => match allC vs, P.underlying t with | some cs, some (.struct _) => .val True (.c (.iface t (.agg cs.toArray))) | _, _ => .bad
  | _ => .bad
def act1 (P : Program) (rs : Nat → Option Res) (ea : Operand → V) : Op → A1
  | .move x => .val True (ea x)
  | .assign x => .val True (ea x)
  | .pick c a b => pick1 (ea c) (ea a) (ea b)
  | .load t x => load1 P rs t (ea x)
  | .fieldAddr t x f => fieldAddr1 P t f (ea x)
  | .field t x f => field1 P t f (ea x)
  | .indexAddr t x i => indexAddr1 P t (ea x).out (ea i)
  | .index t x i => index1 P t (ea x) (ea i)
  | .binOp op t x y _ => bin2 P op t (ea x) (ea y)
  | .unOp op _ x => un1 op (ea x)
  | .convert a b x => conv1 P a b (ea x)
  | .extract x i => extract1 i (ea x)
  | .slice t x lo hi none => slice1 P t (ea x).out (lo.map ea) (hi.map ea)
  | .makeFunc fn fs cs => if fs.isEmpty then (if cs.isEmpty then .val True (.c (.func fn #[] #[])) else match fn with | .func f => .val True (.clo f (cs.toList.map ea)) | _ => .bad) else .bad
  | .call c => call1 P ea c
  | .build t ps => build1 P t (ps.toList.map fun p => (p.1, ea p.2))
  | .nilCheck x => nil1 (ea x)
  | .makeInterface t x => iface1 P t (ea x)
  | _ => .bad
section
variable {P : Program} {s : Sg} {w : World} {rs : Nat → Option Res}
theorem wf_int {k : IntKind} {n : Int} : (Lit.int k n).wf = true ↔ k.min ≤ n ∧ n ≤ k.max := by simp [Lit.wf]
theorem wrap_in {k : IntKind} {n : Int} (h : k.min ≤ n ∧ n ≤ k.max) : k.wrap n = n := by
  obtain ⟨h1, h2⟩ := h
  cases k <;> simp [IntKind.wrap, IntKind.min, IntKind.max, IntKind.bits, IntKind.signed] at * <;> omega
theorem run_eq_bool {t : TypeId} {a b : Bool} (h : P.underlying t = some .bool) : (Op.equal t (.bool a) (.bool b)).run P w = .ok (a == b) w := by
  show (Op.equalIn (9999 + 1) t (.bool a) (.bool b)).run P w = _
  rw [Op.equalIn]
  simp [run_underlying h]
theorem bin1_ok {op : BinOp} {t : TypeId} {vx vy : V} {x y : Operand} {ux uy : Value} {p : Prop} {v : V} (h : bin1 P op t vx vy = .val p v) (hp : p) (hx : rel P s w vx ux) (hy : rel P s w vy uy) :
    ∃ u, (do eqGuard op t x y ux uy; binOp op t ux uy : Sem Value).run P w = .ok u w ∧ rel P s w v u := by
  unfold bin1 at h
  split at h
  · rename_i k a k' b
    rw [rel] at hx hy
    obtain ⟨rfl, hx⟩ := hx
    obtain ⟨rfl, hy⟩ := hy
    split at h
    · rename_i e
      subst e
      split at h <;> simp only [A1.val.injEq, reduceCtorEq] at h <;> obtain ⟨rfl, rfl⟩ := h
      all_goals simp [eqGuard, binOp, Op.intArith, Op.intDiv, Op.intCmp, rel, okV, wf_int]
      all_goals first
        | (rw [wrap_in hp]; simp [hp]; done)
        | (obtain ⟨h0, h1⟩ := hp; simp [h0, wrap_in h1, h1, rel, okV, wf_int]; done)
        | skip
    · cases h
  · rw [rel] at hx hy
    obtain ⟨rfl, hx⟩ := hx
    obtain ⟨rfl, hy⟩ := hy
    split at h <;> simp only [A1.val.injEq, reduceCtorEq] at h <;> obtain ⟨rfl, rfl⟩ := h
    all_goals simp [eqGuard, binOp, Op.stringOp, rel, okV]
    · split
      · rename_i h1
        have h2 : IntKind.i64.max = 9223372036854775807 := rfl
        unfold maxLen at hp
        omega
      · simp [ByteArray.size_append]; omega
  · rw [rel] at hx hy
    obtain ⟨rfl, hx⟩ := hx
    obtain ⟨rfl, hy⟩ := hy
    split at h <;> simp only [A1.val.injEq, reduceCtorEq] at h <;> obtain ⟨rfl, rfl⟩ := h
    all_goals simp [eqGuard, binOp, run_eq_bool hp, rel, okV]
  · cases h
theorem un1_ok {op : UnOp} {vx : V} {ux : Value} {p : Prop} {v : V} (h : un1 op vx = .val p v) (hp : p) (hx : rel P s w vx ux) : ∃ u, (Op.unary op ux).run P w = .ok u w ∧ rel P s w v u := by
  unfold un1 at h
  split at h
  · rw [rel] at hx; obtain ⟨rfl, hx⟩ := hx
    split at h <;> simp only [A1.val.injEq, reduceCtorEq] at h <;> obtain ⟨rfl, rfl⟩ := h
    simp [Op.unary, rel, okV]
  · rw [rel] at hx; obtain ⟨rfl, hx⟩ := hx
    split at h <;> simp only [A1.val.injEq, reduceCtorEq] at h <;> obtain ⟨rfl, rfl⟩ := h
    simp only [Op.unary, Op.intArith, Int.zero_sub, wrap_in hp]
    exact ⟨_, rfl, by simp [rel, okV, wf_int, hp]⟩
  · cases h
theorem pick1_ok {vc va vb : V} {uc ua ub : Value} {p : Prop} {v : V} (h : pick1 vc va vb = .val p v) (hc : rel P s w vc uc) (ha : rel P s w va ua) (hb : rel P s w vb ub) :
    ∃ b, uc = .bool b ∧ rel P s w v (if b then ua else ub) := by
  unfold pick1 at h
  split at h <;> simp only [A1.val.injEq, reduceCtorEq] at h <;> obtain ⟨rfl, rfl⟩ := h
  · rw [rel] at hc ha hb
    obtain ⟨rfl, -⟩ := hc; obtain ⟨rfl, -⟩ := ha; obtain ⟨rfl, -⟩ := hb
    refine ⟨_, rfl, ?_⟩
    rename_i b x y
    cases b <;> simp [rel, okV]
  · rw [rel] at hc; obtain ⟨rfl, -⟩ := hc; exact ⟨_, rfl, by simpa using ha⟩
  · rw [rel] at hc; obtain ⟨rfl, -⟩ := hc; exact ⟨_, rfl, by simpa using hb⟩
theorem Addr.add_none (b o n : Nat) : (⟨b, o, none⟩ : Addr).add n = ⟨b, o + n, none⟩ := by unfold Addr.add; split <;> simp_all
theorem run_field (t f q b o : Nat) (h : off? P t f = some q) : (Instr.fieldAt t (.pointer (some ⟨b, o, none⟩)) f).run P w = .ok (.pointer (some ⟨b, o + q, none⟩)) w := by
  unfold off? at h
  split at h
  · rename_i fs hu
    split at h
    · rename_i g hg
      split at h
      · cases h
      · rename_i hne
        simp only [Option.some.injEq] at h; subst h
        obtain ⟨i, hi⟩ := Option.isSome_iff_exists.1 (show (P.info? g.type).isSome = true by cases hx : P.info? g.type <;> simp_all)
        have hs : P.cellsOf g.type = i.size := by simp [Program.cellsOf, hi]
        have hne2 : ¬ i.size = 0 := by rw [← hs]; exact fun e => hne (.inl e)
        simp [Instr.fieldAt, run_underlying hu, hg, Instr.sureAddr, fieldPlace, sizeOf, typeInfo, hi, hne2, Addr.add_none]
    · cases h
  · cases h
theorem fieldAddr1_ok {t f : Nat} {vx : V} {ux : Value} {p : Prop} {v : V} (h : fieldAddr1 P t f vx = .val p v) (hx : rel P s w vx ux) : ∃ u, (Instr.fieldAt t ux f).run P w = .ok u w ∧ rel P s w v u := by
  unfold fieldAddr1 at h
  split at h
  · split at h <;> simp only [A1.val.injEq, reduceCtorEq] at h <;> obtain ⟨rfl, rfl⟩ := h
    rename_i t' d o q hq
    rw [rel] at hx
    obtain ⟨b, o', k, cs, rfl, h1, h2, h3⟩ := hx
    exact ⟨_, run_field t f q b _ hq, by rw [rel]; exact ⟨b, o', k, cs, by rw [Nat.add_assoc], h1, h2, h3⟩⟩
  · split at h <;> simp only [A1.val.injEq, reduceCtorEq] at h <;> obtain ⟨rfl, rfl⟩ := h
    rename_i n o q hq
    rw [rel] at hx
    obtain ⟨b, h1, rfl⟩ := hx
    exact ⟨_, run_field t f q b _ hq, by rw [rel]; exact ⟨b, h1, rfl⟩⟩
  · cases h
theorem run_isAgg {t : TypeId} {b : Bool} (h : aggB P t = some b) : (isAgg t).run P w = .ok b w ∧ (sizeOf t).run P w = .ok (P.cellsOf t) w := by
  unfold aggB at h
  cases hi : P.info? t with
  | none => simp [hi] at h
  | some i =>
    cases hu : P.underlying t with
    | none => simp [hi, hu] at h
    | some d =>
      refine ⟨?_, by simp [sizeOf, typeInfo, hi, Program.cellsOf]⟩
      cases d <;> simp [hi, hu] at h <;> subst h <;> simp [isAgg, run_underlying hu]
theorem run_cells {b o : Nat} {cs : List Value} (h : ∀ j x, cs[j]? = some x → w.cell? ⟨b, o + j, none⟩ = some x) : (loadCells ⟨b, o, none⟩ cs.length).run P w = .ok cs.toArray w :=
  run_loadCells_list _ _ cs fun j v hj => by rw [Addr.add_none]; exact h j v hj
/-- a load out of cells that are known -/
theorem load_part {t : TypeId} {vs : List V} {cs : List Value} {b o off : Nat} {v : V} (h : part? P t vs off = some v) (hr : relL P s w vs cs) (hc : ∀ j x, cs[j]? = some x → w.cell? ⟨b, o + j, none⟩ = some x) :
    ∃ u, (Instr.loadAt t (.pointer (some ⟨b, o + off, none⟩))).run P w = .ok u w ∧ rel P s w v u := by
  unfold part? at h
  split at h
  · rename_i ha
    obtain ⟨r1, r2⟩ := run_isAgg (w := w) ha
    split at h
    · rename_i hle
      simp only [Option.some.injEq] at h; subst h
      rw [hr.length] at hle
      have hl : ((cs.drop off).take (P.cellsOf t)).length = P.cellsOf t := by rw [List.length_take, List.length_drop]; omega
      have := run_cells (P := P) (w := w) (b := b) (o := o + off) (cs := (cs.drop off).take (P.cellsOf t)) (fun j x hj => by
        rw [List.getElem?_take, List.getElem?_drop] at hj
        split at hj
        · rw [Nat.add_assoc]; exact hc _ x hj
        · cases hj)
      rw [hl] at this
      refine ⟨.agg ((cs.drop off).take (P.cellsOf t)).toArray, by simp [Instr.loadAt, Instr.sureAddr, loadVar, r1, r2, this], ?_⟩
      rw [rel]
      exact ⟨_, rfl, by simpa using (hr.drop off).take (P.cellsOf t)⟩
    · cases h
  · rename_i ha
    obtain ⟨r1, r2⟩ := run_isAgg (w := w) ha
    have hlt : off < vs.length := (List.getElem?_eq_some_iff.1 h).1
    rw [hr.length] at hlt
    refine ⟨cs[off], ?_, hr.get off v _ h (List.getElem?_eq_getElem hlt)⟩
    have := hc off _ (List.getElem?_eq_getElem hlt)
    simp [Instr.loadAt, Instr.sureAddr, loadVar, r1, load, Sem.run, this]
  · cases h
/-- boxes are there -/
def Boxes (P : Program) (rs : Nat → Option Res) (s : Sg) (w : World) : Prop := ∀ n t vs, rs n = some (.box t vs) → Holds P s w n (.box t vs)
theorem ofPart_val {x : Option V} {p : Prop} {v : V} (h : ofPart x = .val p v) : x = some v ∧ p := by
  unfold ofPart at h
  split at h <;> simp only [A1.val.injEq, reduceCtorEq] at h
  obtain ⟨rfl, rfl⟩ := h; exact ⟨rfl, trivial⟩
theorem load1_ok {t : TypeId} {vx : V} {ux : Value} {p : Prop} {v : V} (h : load1 P rs t vx = .val p v) (hb : Boxes P rs s w) (hx : rel P s w vx ux) : ∃ u, (Instr.loadAt t ux).run P w = .ok u w ∧ rel P s w v u := by
  unfold load1 at h
  split at h
  · split at h
    · rename_i hl
      rw [rel] at hx
      obtain ⟨b, o', k, cs, rfl, h1, h2, h3⟩ := hx
      exact load_part (ofPart_val h).1 (cells_rel 12 k _ cs _ h3 h1 hl) fun j x hj => (h2 j x hj).1
    · cases h
  · split at h
    · rename_i t' vs hn
      rw [rel] at hx
      obtain ⟨b, h1, rfl⟩ := hx
      obtain ⟨b', cs, h2, h3, h4, _⟩ := hb _ _ _ hn
      rw [h1] at h2; cases h2
      have := load_part (o := 0) (b := b) (ofPart_val h).1 h4 fun j x hj => by
        rw [Nat.zero_add, cell_of_row _ b j cs t' (0, 0) h3]
        rw [Array.getElem?_toList] at hj; exact hj
      simpa using this
    · cases h
  · cases h
theorem run_part {t : TypeId} {vs : List V} {cs : Array Value} {off : Nat} {v : V} (h : part? P t vs off = some v) (hr : relL P s w vs cs.toList) : ∃ u, (part t cs off).run P w = .ok u w ∧ rel P s w v u := by
  unfold part? at h
  split at h
  · rename_i ha
    obtain ⟨r1, r2⟩ := run_isAgg (w := w) ha
    split at h
    · rename_i hle
      simp only [Option.some.injEq] at h; subst h
      refine ⟨.agg (cs.extract off (off + P.cellsOf t)), by simp [part, r1, r2], ?_⟩
      rw [rel]
      refine ⟨_, rfl, ?_⟩
      have := (hr.drop off).take (P.cellsOf t)
      simpa [Array.toList_extract, List.extract_eq_take_drop] using this
    · cases h
  · rename_i ha
    obtain ⟨r1, r2⟩ := run_isAgg (w := w) ha
    have hlt : off < vs.length := (List.getElem?_eq_some_iff.1 h).1
    rw [hr.length] at hlt
    refine ⟨cs.toList[off], ?_, hr.get off v _ h (List.getElem?_eq_getElem hlt)⟩
    have hlt2 : off < cs.size := by simpa using hlt
    simp [part, r1, hlt2]
  · cases h
theorem eqFlds_ok {vs us : List V} {xs ys : Array Value} (hx : relL P s w vs xs.toList) (hy : relL P s w us ys.toList) (d : Nat) : ∀ (fs : List Field) (b : Bool), eqFlds P vs us fs = some b → (Op.eqFields (d + 1) xs ys fs).run P w = .ok b w
  | [], b, h => by cases h; simp [Op.eqFields]
  | f :: fs, b, h => by
    unfold eqFlds at h
    split at h
    · cases h
    rename_i hn
    split at h
    · rename_i k a k' c q h1 h2 h3
      split at h
      · rename_i hk
        subst hk
        obtain ⟨r, hr, rfl⟩ := Option.map_eq_some_iff.1 h
        have ih := eqFlds_ok hx hy d fs r hr
        obtain ⟨u1, p1, p2⟩ := run_part (w := w) h1 hx
        obtain ⟨u2, p3, p4⟩ := run_part (w := w) h2 hy
        rw [rel] at p2
        rw [rel] at p4
        obtain ⟨rfl, -⟩ := p2
        obtain ⟨rfl, -⟩ := p4
        cases hac : a == c <;> simp [Op.eqFields, hn, p1, p3, run_equalIn_int w d _ _ _ _ _ h3, hac, ih]
      · cases h
    · rename_i a c h1 h2 h3
      obtain ⟨r, hr, rfl⟩ := Option.map_eq_some_iff.1 h
      have ih := eqFlds_ok hx hy d fs r hr
      obtain ⟨u1, p1, p2⟩ := run_part (w := w) h1 hx
      obtain ⟨u2, p3, p4⟩ := run_part (w := w) h2 hy
      rw [rel] at p2
      rw [rel] at p4
      obtain ⟨rfl, -⟩ := p2
      obtain ⟨rfl, -⟩ := p4
      cases hac : a == c <;> simp [Op.eqFields, hn, p1, p3, run_equalIn_bool' w d _ _ _ h3, hac, ih]
    · rename_i a c h1 h2 h3
      obtain ⟨r, hr, rfl⟩ := Option.map_eq_some_iff.1 h
      have ih := eqFlds_ok hx hy d fs r hr
      obtain ⟨u1, p1, p2⟩ := run_part (w := w) h1 hx
      obtain ⟨u2, p3, p4⟩ := run_part (w := w) h2 hy
      rw [rel] at p2
      rw [rel] at p4
      obtain ⟨rfl, -⟩ := p2
      obtain ⟨rfl, -⟩ := p4
      cases hac : a.toList == c.toList <;> simp [Op.eqFields, hn, p1, p3, run_equalIn_string w d _ _ _ h3, hac, ih]
    · cases h
theorem bin2_ok {op : BinOp} {t : TypeId} {vx vy : V} {x y : Operand} {ux uy : Value} {p : Prop} {v : V} (h : bin2 P op t vx vy = .val p v) (hp : p) (hx : rel P s w vx ux) (hy : rel P s w vy uy) :
    ∃ u, (do eqGuard op t x y ux uy; binOp op t ux uy : Sem Value).run P w = .ok u w ∧ rel P s w v u := by
  unfold bin2 at h
  split at h
  · rename_i vs us
    rw [rel] at hx
    rw [rel] at hy
    obtain ⟨xs, rfl, hx⟩ := hx
    obtain ⟨ys, rfl, hy⟩ := hy
    split at h
    · rename_i b he
      simp only [A1.val.injEq] at h
      obtain ⟨rfl, rfl⟩ := h
      obtain ⟨h1, h2, h3⟩ := hp
      have := eqFlds_ok hx hy 9998 _ b he
      refine ⟨.bool b, ?_, by rw [rel]; exact ⟨rfl, trivial⟩⟩
      rw [Sem.run_bind, run_eqGuard_agg w _ _ _ _ _ _ h2, Result.andThen_ok, run_eql_struct, run_equalIn_struct w 9999 t xs ys h3 h1, this]
      rfl
    · rename_i b he
      simp only [A1.val.injEq] at h
      obtain ⟨rfl, rfl⟩ := h
      obtain ⟨h1, h2, h3⟩ := hp
      have := eqFlds_ok hx hy 9998 _ b he
      refine ⟨.bool (!b), ?_, by rw [rel]; exact ⟨rfl, trivial⟩⟩
      rw [Sem.run_bind, run_eqGuard_agg w _ _ _ _ _ _ h2, Result.andThen_ok, run_neq_struct, run_equalIn_struct w 9999 t xs ys h3 h1, this]
      rfl
    · cases h
  · exact bin1_ok h hp hx hy
theorem field1_ok {t f : Nat} {vx : V} {ux : Value} {p : Prop} {v : V} (h : field1 P t f vx = .val p v) (hx : rel P s w vx ux) : ∃ u, (Instr.field t ux f).run P w = .ok u w ∧ rel P s w v u := by
  unfold field1 at h
  split at h
  · split at h
    · rename_i vs u o hf
      rw [rel] at hx
      obtain ⟨cs, rfl, hr⟩ := hx
      unfold fieldT at hf
      split at hf
      · rename_i fs hu
        obtain ⟨g, hg, he⟩ := Option.map_eq_some_iff.1 hf
        simp only [Prod.mk.injEq] at he
        obtain ⟨rfl, rfl⟩ := he
        obtain ⟨y, y1, y2⟩ := run_part (w := w) (ofPart_val h).1 hr
        exact ⟨y, by simp [Instr.field, run_underlying hu, hg, asAgg, y1], y2⟩
      · cases hf
    · cases h
  · cases h
theorem sliceOf_u {t e : TypeId} (h : sliceOf P t = some e) : P.underlying t = some (.slice e) := by
  unfold sliceOf at h
  split at h
  · rename_i hu; cases h; exact hu
  · cases h
theorem index_sl {t e : TypeId} {l : List D} {u : Value} {k : IntKind} {i : Int} (ht : sliceOf P t = some e) (hz : 0 < P.cellsOf e) (hi : (P.info? e).isSome) (h0 : 0 ≤ i ∧ i < l.length) (h : SlV P w s.F e l u) :
    ∃ y, (Instr.indexAt t u (.int k i)).run P w = .ok y w ∧ AtF P w s.F e (gD l i.toNat) 0 y := by
  obtain ⟨kk, A, c, rfl, h2, h3, h4, h5⟩ := h
  obtain ⟨b, off, rfl, hat⟩ := h5 (by omega) hz
  obtain ⟨ys, y1, y2, y3⟩ := hat i.toNat (by omega)
  obtain ⟨ie, hie⟩ := Option.isSome_iff_exists.1 hi
  have hs : P.cellsOf e = ie.size := by simp [Program.cellsOf, hie]
  refine ⟨.pointer (some ⟨b, off + i.toNat * P.cellsOf e, none⟩), ?_, b, off + i.toNat * P.cellsOf e, kk, ys, rfl, y1, y2, y3⟩
  simp [Instr.indexAt, asIntOf, run_underlying (sliceOf_u ht), h0, sizeOf, typeInfo, hie, hs, Addr.add_none]
theorem indexAddr1_ok {t : TypeId} {vx vi : V} {ux ui : Value} {p : Prop} {v : V} (h : indexAddr1 P t vx vi = .val p v) (hp : p) (hx : rel P s w vx ux) (hi : rel P s w vi ui) : ∃ u, (Instr.indexAt t ux ui).run P w = .ok u w ∧ rel P s w v u := by
  unfold indexAddr1 at h
  split at h
  · split at h <;> simp only [A1.val.injEq, reduceCtorEq] at h <;> obtain ⟨rfl, rfl⟩ := h
    rename_i hc
    rw [rel] at hx; rw [rel] at hi
    obtain ⟨rfl, -⟩ := hi
    obtain ⟨y, y1, y2⟩ := index_sl hc.1 hc.2.1 hc.2.2 hp hx
    exact ⟨y, y1, by rw [rel]; exact y2⟩
  · cases h
theorem byte_rel (x : UInt8) : rel P s w (.c (.int .u8 x.toNat)) (.int .u8 x.toNat) := by
  rw [rel]
  refine ⟨rfl, ?_⟩
  simp only [okV, wf_int, IntKind.min, IntKind.max, IntKind.signed, IntKind.bits]
  have := x.toNat_lt
  simp; omega
theorem index1_ok {t : TypeId} {vx vi : V} {ux ui : Value} {p : Prop} {v : V} (h : index1 P t vx vi = .val p v) (hp : p) (hx : rel P s w vx ux) (hi : rel P s w vi ui) : ∃ u, (Instr.index t ux ui).run P w = .ok u w ∧ rel P s w v u := by
  unfold index1 at h
  split at h <;> simp only [A1.val.injEq, reduceCtorEq] at h <;> obtain ⟨rfl, rfl⟩ := h
  rename_i str k i
  obtain ⟨hu, h0, h1⟩ := hp
  rw [rel] at hx hi
  obtain ⟨rfl, -⟩ := hx
  obtain ⟨rfl, -⟩ := hi
  have hlt : i.toNat < str.size := by omega
  have e : str[i.toNat]? = some str[i.toNat] := getElem?_pos str i.toNat hlt
  have e2 : byteAt str i.toNat = (str[i.toNat]).toNat := by
    have hlt2 : i.toNat < str.data.size := hlt
    unfold byteAt
    rw [List.getD_eq_getElem?_getD, Array.getElem?_toList, Array.getElem?_eq_getElem hlt2]
    rfl
  rw [e2]
  exact ⟨_, by simp [Instr.index, asIntOf, run_underlying hu, h0, e], byte_rel _⟩
theorem conv1_ok {a b : TypeId} {vx : V} {ux : Value} {p : Prop} {v : V} (h : conv1 P a b vx = .val p v) (hp : p) (hx : rel P s w vx ux) : ∃ u, (convert a b ux).run P w = .ok u w ∧ rel P s w v u := by
  unfold conv1 at h
  split at h
  · split at h <;> simp only [A1.val.injEq, reduceCtorEq] at h <;> obtain ⟨rfl, rfl⟩ := h
    rename_i k n _ _ dd k' h1 h2
    rw [rel] at hx; obtain ⟨rfl, -⟩ := hx
    refine ⟨.int k' n, ?_, by simp [rel, okV, wf_int, hp]⟩
    simp [convert, run_underlying h1, run_underlying h2, Conv.intToInt, wrap_in hp]
  · split at h <;> simp only [A1.val.injEq, reduceCtorEq] at h <;> obtain ⟨rfl, rfl⟩ := h
    rename_i h1 h2
    have hx' := hx
    rw [rel] at hx; obtain ⟨rfl, -⟩ := hx
    exact ⟨_, by simp [convert, run_underlying h1, run_underlying h2], hx'⟩
  · cases h
theorem extract1_ok {i : Nat} {vx : V} {ux : Value} {p : Prop} {v : V} (h : extract1 i vx = .val p v) (hx : rel P s w vx ux) : ∃ u, (Instr.extract ux i).run P w = .ok u w ∧ rel P s w v u := by
  unfold extract1 at h
  split at h
  · rename_i vs
    rw [rel] at hx
    obtain ⟨cs, rfl, hr⟩ := hx
    have hv := (ofPart_val h).1
    have hlt : i < vs.length := (List.getElem?_eq_some_iff.1 hv).1
    rw [hr.length] at hlt
    refine ⟨cs.toList[i], ?_, hr.get i v _ hv (List.getElem?_eq_getElem hlt)⟩
    have hlt2 : i < cs.size := by simpa using hlt
    simp [Instr.extract, hlt2]
  · cases h
end
end Go.Proofs.YtdklhkdlndlgnaaGreatDoor
