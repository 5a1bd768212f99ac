/-
  CONTRACTS IN THE ABSTRACT MACHINE: the rules as rewritings, from outside in.
-/
import Derived.Test.YtkggibodlljkcaiGreatAm4a
set_option linter.unusedVariables false
set_option linter.unusedSimpArgs false
namespace Go.Am
section
variable {P : Program} {K : Xs} {e : Env} {h : AH}
/-- On with what an operation gives. -/
def onS (y : Option (Value × AH)) (Q : Value → AH → Prop) : Prop := match y with | some z => Q z.1 z.2 | none => False
@[simp ↓] theorem onS_some {v : Value} {Q : Value → AH → Prop} : onS (some (v, h)) Q = Q v h := rfl
@[simp] theorem onS_map {x : Value} {Q : Value → AH → Prop} : onS ((some x).map (·, h)) Q = Q x h := rfl
@[simp] theorem onS_mapU {Q : Value → AH → Prop} : onS ((some h).map (undef, ·)) Q = Q undef h := rfl
@[congr] theorem onS_congr {y z : Option (Value × AH)} {Q : Value → AH → Prop} (hy : y = z) : onS y Q = onS z Q := by rw [hy]
/-- What follows an operation, a piece of code, a region: named, that no one looks into it ahead of its time. -/
def ks (P : Program) (K : Xs) (ops : Array Oper) (os : List Oper) (d : Option Tmp) (e : Env) (Q : Env → AH → Prop) : Value → AH → Prop := fun v h' => Ws P K ops os (putO e d v) h' Q
def kc (P : Program) (K : Xs) (rd : Option Nat) (b : Code) (Q : AX → Env → AH → Prop) : Env → AH → Prop := fun e h => Wc P K rd b e h Q
def kn (Q : AX → Env → AH → Prop) : Env → AH → Prop := fun e h => Q .normal e h
@[simp ↓] theorem ks_at {ops : Array Oper} {os : List Oper} {d : Option Tmp} {Q : Env → AH → Prop} {v : Value} : ks P K ops os d e Q v h = Ws P K ops os (putO e d v) h Q := rfl
@[simp ↓] theorem kc_at {rd : Option Nat} {b : Code} {Q : AX → Env → AH → Prop} : kc P K rd b Q e h = Wc P K rd b e h Q := rfl
@[simp ↓] theorem kn_at {Q : AX → Env → AH → Prop} : kn Q e h = Q .normal e h := rfl
theorem Wo_eq {o : Oper} {Q : Value → AH → Prop} (hc : callsV o.op = false) : Wo P K o e h Q = onS (aOp P o e h) Q := by
  cases ha : aOp P o e h with
  | none =>
    refine propext ⟨?_, fun hq => hq.elim⟩
    rintro ⟨n, v1, h1, h2, h3⟩
    rw [runOp_plain hc, ha] at h2
    simp at h2
  | some y => exact propext (Wo_plain hc ha)
theorem Wo_move {dst : Option Tmp} (x : Operand) {t : TypeId} {p : String} {af : Array Edge} {gd : Option (Nat × Bool)} {Q : Value → AH → Prop} : Wo P K ⟨dst, .move x, t, p, af, gd⟩ e h Q = onS (aOp P ⟨dst, .move x, t, p, af, gd⟩ e h) Q := Wo_eq rfl
theorem Wo_assign {dst : Option Tmp} (x : Operand) {t : TypeId} {p : String} {af : Array Edge} {gd : Option (Nat × Bool)} {Q : Value → AH → Prop} : Wo P K ⟨dst, .assign x, t, p, af, gd⟩ e h Q = onS (aOp P ⟨dst, .assign x, t, p, af, gd⟩ e h) Q := Wo_eq rfl
theorem Wo_pick {dst : Option Tmp} (c a b : Operand) {t : TypeId} {p : String} {af : Array Edge} {gd : Option (Nat × Bool)} {Q : Value → AH → Prop} : Wo P K ⟨dst, .pick c a b, t, p, af, gd⟩ e h Q = onS (aOp P ⟨dst, .pick c a b, t, p, af, gd⟩ e h) Q := Wo_eq rfl
theorem Wo_alloc {dst : Option Tmp} (ty : TypeId) {t : TypeId} {p : String} {af : Array Edge} {gd : Option (Nat × Bool)} {Q : Value → AH → Prop} : Wo P K ⟨dst, .alloc ty, t, p, af, gd⟩ e h Q = onS (aOp P ⟨dst, .alloc ty, t, p, af, gd⟩ e h) Q := Wo_eq rfl
theorem Wo_box {dst : Option Tmp} (ty : TypeId) (x : Operand) {t : TypeId} {p : String} {af : Array Edge} {gd : Option (Nat × Bool)} {Q : Value → AH → Prop} : Wo P K ⟨dst, .box ty x, t, p, af, gd⟩ e h Q = onS (aOp P ⟨dst, .box ty x, t, p, af, gd⟩ e h) Q := Wo_eq rfl
theorem Wo_build {dst : Option Tmp} (ty : TypeId) (ps : Array (Nat × Operand)) {t : TypeId} {p : String} {af : Array Edge} {gd : Option (Nat × Bool)} {Q : Value → AH → Prop} : Wo P K ⟨dst, .build ty ps, t, p, af, gd⟩ e h Q = onS (aOp P ⟨dst, .build ty ps, t, p, af, gd⟩ e h) Q := Wo_eq rfl
theorem Wo_buildSlice {dst : Option Tmp} (ty : TypeId) (n : Nat) (ps : Array (Nat × Operand)) {t : TypeId} {p : String} {af : Array Edge} {gd : Option (Nat × Bool)} {Q : Value → AH → Prop} : Wo P K ⟨dst, .buildSlice ty n ps, t, p, af, gd⟩ e h Q = onS (aOp P ⟨dst, .buildSlice ty n ps, t, p, af, gd⟩ e h) Q := Wo_eq rfl
theorem Wo_load {dst : Option Tmp} (ty : TypeId) (x : Operand) {t : TypeId} {p : String} {af : Array Edge} {gd : Option (Nat × Bool)} {Q : Value → AH → Prop} : Wo P K ⟨dst, .load ty x, t, p, af, gd⟩ e h Q = onS (aOp P ⟨dst, .load ty x, t, p, af, gd⟩ e h) Q := Wo_eq rfl
theorem Wo_store {dst : Option Tmp} (ty : TypeId) (x y : Operand) {t : TypeId} {p : String} {af : Array Edge} {gd : Option (Nat × Bool)} {Q : Value → AH → Prop} : Wo P K ⟨dst, .store ty x y, t, p, af, gd⟩ e h Q = onS (aOp P ⟨dst, .store ty x y, t, p, af, gd⟩ e h) Q := Wo_eq rfl
theorem Wo_nilCheck {dst : Option Tmp} (x : Operand) {t : TypeId} {p : String} {af : Array Edge} {gd : Option (Nat × Bool)} {Q : Value → AH → Prop} : Wo P K ⟨dst, .nilCheck x, t, p, af, gd⟩ e h Q = onS (aOp P ⟨dst, .nilCheck x, t, p, af, gd⟩ e h) Q := Wo_eq rfl
theorem Wo_binOp {dst : Option Tmp} (op : BinOp) (ty : TypeId) (x y : Operand) (yt : TypeId) {t : TypeId} {p : String} {af : Array Edge} {gd : Option (Nat × Bool)} {Q : Value → AH → Prop} : Wo P K ⟨dst, .binOp op ty x y yt, t, p, af, gd⟩ e h Q = onS (aOp P ⟨dst, .binOp op ty x y yt, t, p, af, gd⟩ e h) Q := Wo_eq rfl
theorem Wo_unOp {dst : Option Tmp} (op : UnOp) (ty : TypeId) (x : Operand) {t : TypeId} {p : String} {af : Array Edge} {gd : Option (Nat × Bool)} {Q : Value → AH → Prop} : Wo P K ⟨dst, .unOp op ty x, t, p, af, gd⟩ e h Q = onS (aOp P ⟨dst, .unOp op ty x, t, p, af, gd⟩ e h) Q := Wo_eq rfl
theorem Wo_convert {dst : Option Tmp} (s d : TypeId) (x : Operand) {t : TypeId} {p : String} {af : Array Edge} {gd : Option (Nat × Bool)} {Q : Value → AH → Prop} : Wo P K ⟨dst, .convert s d x, t, p, af, gd⟩ e h Q = onS (aOp P ⟨dst, .convert s d x, t, p, af, gd⟩ e h) Q := Wo_eq rfl
theorem Wo_makeFunc {dst : Option Tmp} (fn : Fn) (a b : Array Operand) {t : TypeId} {p : String} {af : Array Edge} {gd : Option (Nat × Bool)} {Q : Value → AH → Prop} : Wo P K ⟨dst, .makeFunc fn a b, t, p, af, gd⟩ e h Q = onS (aOp P ⟨dst, .makeFunc fn a b, t, p, af, gd⟩ e h) Q := Wo_eq rfl
theorem Wo_makeMap {dst : Option Tmp} (ty : TypeId) (r : Option Operand) {t : TypeId} {p : String} {af : Array Edge} {gd : Option (Nat × Bool)} {Q : Value → AH → Prop} : Wo P K ⟨dst, .makeMap ty r, t, p, af, gd⟩ e h Q = onS (aOp P ⟨dst, .makeMap ty r, t, p, af, gd⟩ e h) Q := Wo_eq rfl
theorem Wo_makeSlice {dst : Option Tmp} (ty : TypeId) (l c : Operand) {t : TypeId} {p : String} {af : Array Edge} {gd : Option (Nat × Bool)} {Q : Value → AH → Prop} : Wo P K ⟨dst, .makeSlice ty l c, t, p, af, gd⟩ e h Q = onS (aOp P ⟨dst, .makeSlice ty l c, t, p, af, gd⟩ e h) Q := Wo_eq rfl
theorem Wo_slice {dst : Option Tmp} (ty : TypeId) (x : Operand) (lo hi mx : Option Operand) {t : TypeId} {p : String} {af : Array Edge} {gd : Option (Nat × Bool)} {Q : Value → AH → Prop} : Wo P K ⟨dst, .slice ty x lo hi mx, t, p, af, gd⟩ e h Q = onS (aOp P ⟨dst, .slice ty x lo hi mx, t, p, af, gd⟩ e h) Q := Wo_eq rfl
theorem Wo_fieldAddr {dst : Option Tmp} (ty : TypeId) (x : Operand) (f : Nat) {t : TypeId} {p : String} {af : Array Edge} {gd : Option (Nat × Bool)} {Q : Value → AH → Prop} : Wo P K ⟨dst, .fieldAddr ty x f, t, p, af, gd⟩ e h Q = onS (aOp P ⟨dst, .fieldAddr ty x f, t, p, af, gd⟩ e h) Q := Wo_eq rfl
theorem Wo_field {dst : Option Tmp} (ty : TypeId) (x : Operand) (f : Nat) {t : TypeId} {p : String} {af : Array Edge} {gd : Option (Nat × Bool)} {Q : Value → AH → Prop} : Wo P K ⟨dst, .field ty x f, t, p, af, gd⟩ e h Q = onS (aOp P ⟨dst, .field ty x f, t, p, af, gd⟩ e h) Q := Wo_eq rfl
theorem Wo_indexAddr {dst : Option Tmp} (ty : TypeId) (x i : Operand) {t : TypeId} {p : String} {af : Array Edge} {gd : Option (Nat × Bool)} {Q : Value → AH → Prop} : Wo P K ⟨dst, .indexAddr ty x i, t, p, af, gd⟩ e h Q = onS (aOp P ⟨dst, .indexAddr ty x i, t, p, af, gd⟩ e h) Q := Wo_eq rfl
theorem Wo_index {dst : Option Tmp} (ty : TypeId) (x i : Operand) {t : TypeId} {p : String} {af : Array Edge} {gd : Option (Nat × Bool)} {Q : Value → AH → Prop} : Wo P K ⟨dst, .index ty x i, t, p, af, gd⟩ e h Q = onS (aOp P ⟨dst, .index ty x i, t, p, af, gd⟩ e h) Q := Wo_eq rfl
theorem Wo_lookup {dst : Option Tmp} (ty : TypeId) (x i : Operand) (ok : Bool) {t : TypeId} {p : String} {af : Array Edge} {gd : Option (Nat × Bool)} {Q : Value → AH → Prop} : Wo P K ⟨dst, .lookup ty x i ok, t, p, af, gd⟩ e h Q = onS (aOp P ⟨dst, .lookup ty x i ok, t, p, af, gd⟩ e h) Q := Wo_eq rfl
theorem Wo_mapUpdate {dst : Option Tmp} (ty : TypeId) (m k v : Operand) {t : TypeId} {p : String} {af : Array Edge} {gd : Option (Nat × Bool)} {Q : Value → AH → Prop} : Wo P K ⟨dst, .mapUpdate ty m k v, t, p, af, gd⟩ e h Q = onS (aOp P ⟨dst, .mapUpdate ty m k v, t, p, af, gd⟩ e h) Q := Wo_eq rfl
theorem Wo_range {dst : Option Tmp} (ty : TypeId) (x : Operand) {t : TypeId} {p : String} {af : Array Edge} {gd : Option (Nat × Bool)} {Q : Value → AH → Prop} : Wo P K ⟨dst, .range ty x, t, p, af, gd⟩ e h Q = onS (aOp P ⟨dst, .range ty x, t, p, af, gd⟩ e h) Q := Wo_eq rfl
theorem Wo_next {dst : Option Tmp} (x : Operand) (s : Bool) {t : TypeId} {p : String} {af : Array Edge} {gd : Option (Nat × Bool)} {Q : Value → AH → Prop} : Wo P K ⟨dst, .next x s, t, p, af, gd⟩ e h Q = onS (aOp P ⟨dst, .next x s, t, p, af, gd⟩ e h) Q := Wo_eq rfl
theorem Wo_extract {dst : Option Tmp} (x : Operand) (i : Nat) {t : TypeId} {p : String} {af : Array Edge} {gd : Option (Nat × Bool)} {Q : Value → AH → Prop} : Wo P K ⟨dst, .extract x i, t, p, af, gd⟩ e h Q = onS (aOp P ⟨dst, .extract x i, t, p, af, gd⟩ e h) Q := Wo_eq rfl
theorem Wo_builtin {dst : Option Tmp} {bi : Builtin} {args : Array Operand} {ats : Array TypeId} {t : TypeId} {p : String} {af : Array Edge} {gd : Option (Nat × Bool)} {Q : Value → AH → Prop} : Wo P K ⟨dst, .call ⟨.builtin bi, args, ats⟩, t, p, af, gd⟩ e h Q = onS (aOp P ⟨dst, .call ⟨.builtin bi, args, ats⟩, t, p, af, gd⟩ e h) Q := Wo_eq rfl

@[simp ↓] theorem Wc_seqK {rd : Option Nat} {a b : Code} {Q : AX → Env → AH → Prop} : Wc P K rd (.seq a b) e h Q = Wc P K rd a e h (onN (kc P K rd b Q) Q) := propext Wc_seq
@[simp ↓] theorem Wc_regionK {rd : Option Nat} {id : Nat} {ops : Array Oper} {Q : AX → Env → AH → Prop} : Wc P K rd (.region id ops false) e h Q = Ws P K ops ops.toList e h (kn Q) := propext Wc_region
@[simp ↓] theorem Wc_drawK {rd : Option Nat} {id : Nat} {ops : Array Oper} {Q : AX → Env → AH → Prop} : Wc P K rd (.region id ops true) e h Q = Wd P K ops e h (kn Q) := propext Wc_draw
@[simp ↓] theorem Ws_plainK {ops : Array Oper} {d : Option Tmp} {op : Op} {t : TypeId} {p : String} {af : Array Edge} {os : List Oper} {Q : Env → AH → Prop} :
    Ws P K ops (⟨d, op, t, p, af, none⟩ :: os) e h Q = Wo P K ⟨d, op, t, p, af, none⟩ e h (ks P K ops os d e Q) := propext Ws_plain
@[simp ↓] theorem Wo_callK {d : Option Tmp} {g : FuncId} {args : Array Operand} {ats : Array TypeId} {t : TypeId} {p : String} {af : Array Edge} {gd : Option (Nat × Bool)} {Q : Value → AH → Prop} :
    Wo P K ⟨d, .call ⟨.value (.func g), args, ats⟩, t, p, af, gd⟩ e h Q = Wf P K g (args.toList.map (ev e)) h Q := propext Wo_callF
attribute [simp ↓] Wc_skip Wc_label Wc_ret Wc_exit Wc_block Wc_scope Ws_nil Wo_move Wo_assign Wo_pick Wo_alloc Wo_box Wo_build Wo_buildSlice Wo_load Wo_store Wo_nilCheck Wo_binOp Wo_unOp Wo_convert Wo_makeFunc Wo_makeMap Wo_makeSlice Wo_slice Wo_fieldAddr Wo_field Wo_indexAddr Wo_index Wo_lookup Wo_mapUpdate Wo_range Wo_next Wo_extract Wo_builtin
attribute [simp] onN_normal onN_ret onN_exit outOf_normal outOf_ret outOf_self
@[simp] theorem outOf_exit {id i : Nat} {Q : AX → Env → AH → Prop} : outOf id Q (.exit i) e h = if i = id then Q .normal e h else Q (.exit i) e h := by
  by_cases hi : i = id
  · subst hi; simp [outOf]
  · rw [outOf_ne hi, if_neg hi]
@[congr] theorem Wc_congr {rd : Option Nat} {c : Code} {e e' : Env} {h h' : AH} {Q : AX → Env → AH → Prop} (he : e = e') (hh : h = h') : Wc P K rd c e h Q = Wc P K rd c e' h' Q := by rw [he, hh]
@[congr] theorem Wf_congr {f : FuncId} {a a' : List Value} {h h' : AH} {Q : Value → AH → Prop} (he : a = a') (hh : h = h') : Wf P K f a h Q = Wf P K f a' h' Q := by rw [he, hh]
@[congr] theorem Ws_congr {ops : Array Oper} {os : List Oper} {e e' : Env} {h h' : AH} {Q : Env → AH → Prop} (he : e = e') (hh : h = h') : Ws P K ops os e h Q = Ws P K ops os e' h' Q := by rw [he, hh]
@[congr] theorem Wo_congr {o : Oper} {e e' : Env} {h h' : AH} {Q : Value → AH → Prop} (he : e = e') (hh : h = h') : Wo P K o e h Q = Wo P K o e' h' Q := by rw [he, hh]
/-- A condition: the value it has. -/
def onB (v : Value) (A B : Prop) : Prop := match v with | .bool true => A | .bool false => B | _ => False
@[simp] theorem onB_bool {t : Bool} {A B : Prop} : onB (.bool t) A B = (if t = true then A else B) := by cases t <;> simp [onB]
@[congr] theorem onB_congr {v v' : Value} {A B : Prop} (hv : v = v') : onB v A B = onB v' A B := by rw [hv]
@[simp ↓] theorem Wc_onB {rd : Option Nat} {Q : AX → Env → AH → Prop} {c : Operand} {a b : Code} : Wc P K rd (.cond c a b) e h Q = onB (ev e c) (Wc P K rd a e h Q) (Wc P K rd b e h Q) := by
  cases hv : ev e c with
  | bool t => rw [propext (Wc_cond hv)]; cases t <;> rfl
  | _ =>
    simp only [onB]
    refine propext ⟨?_, fun hq => hq.elim⟩
    rw [Wc_step]
    rintro ⟨n, x, e', h', h1, h2⟩
    simp [exStep, hv] at h1
/-- An operation with a guard. -/
def onG (g : Option Bool) (A B : Prop) : Prop := match g with | some true => A | some false => B | none => False
@[simp] theorem onG_some {t : Bool} {A B : Prop} : onG (some t) A B = (if t = true then A else B) := by cases t <;> simp [onG]
@[congr] theorem onG_congr {v v' : Option Bool} {A B : Prop} (hv : v = v') : onG v A B = onG v' A B := by rw [hv]
@[simp ↓] theorem Ws_guard {ops : Array Oper} {d : Option Tmp} {op : Op} {t : TypeId} {p : String} {af : Array Edge} {g : Nat × Bool} {os : List Oper} {Q : Env → AH → Prop} :
    Ws P K ops (⟨d, op, t, p, af, some g⟩ :: os) e h Q = onG (wantedA ops ⟨d, op, t, p, af, some g⟩ e) (Wo P K ⟨d, op, t, p, af, some g⟩ e h (ks P K ops os d e Q)) (Ws P K ops os (putO e d undef) h Q) := by
  cases hw : wantedA ops ⟨d, op, t, p, af, some g⟩ e with
  | none =>
    simp only [onG]
    refine propext ⟨?_, fun hq => hq.elim⟩
    rintro ⟨n, e', h', h1, h2⟩
    simp [runOps, hw] at h1
  | some b =>
    cases b with
    | true => exact propext (Ws_go hw)
    | false => exact propext (Ws_skip hw)

/-! ## Drawn regions -/
def Wl (P : Program) (K : Xs) (ops : Array Oper) (os : List Nat) (e : Env) (h : AH) (Q : List (Env × AH) → Prop) : Prop := ∃ n l, runL P K (ex P K n) ops os e h = some l ∧ Q l
@[congr] theorem Wl_congr {ops : Array Oper} {os : List Nat} {e e' : Env} {h h' : AH} {Q : List (Env × AH) → Prop} (he : e = e') (hh : h = h') : Wl P K ops os e h Q = Wl P K ops os e' h' Q := by rw [he, hh]
@[simp ↓] theorem Wl_nil {ops : Array Oper} {Q : List (Env × AH) → Prop} : Wl P K ops [] e h Q = Q [(e, h)] :=
  propext ⟨fun ⟨n, l, h1, h2⟩ => by simp [runL] at h1; subst h1; exact h2, fun hq => ⟨0, _, rfl, hq⟩⟩
/-- The operation at a place of the order. -/
def onO (o : Option Oper) (k : Oper → Prop) : Prop := match o with | some o => k o | none => False
@[simp ↓] theorem onO_some {o : Oper} {k : Oper → Prop} : onO (some o) k = k o := rfl
@[congr] theorem onO_congr {o o' : Option Oper} {k : Oper → Prop} (ho : o = o') : onO o k = onO o' k := by rw [ho]
def kl (P : Program) (K : Xs) (ops : Array Oper) (js : List Nat) (d : Option Tmp) (e : Env) (Q : List (Env × AH) → Prop) : Value → AH → Prop := fun v h' => Wl P K ops js (putO e d v) h' Q
def kp (e : Env) (h : AH) (Q : List (Env × AH) → Prop) : List (Env × AH) → Prop := fun l => Q ((e, h) :: l)
@[simp ↓] theorem kl_at {ops : Array Oper} {js : List Nat} {d : Option Tmp} {Q : List (Env × AH) → Prop} {v : Value} : kl P K ops js d e Q v h = Wl P K ops js (putO e d v) h Q := rfl
@[simp ↓] theorem kp_at {Q : List (Env × AH) → Prop} {l : List (Env × AH)} : kp e h Q l = Q ((e, h) :: l) := rfl
def ko (P : Program) (K : Xs) (ops : Array Oper) (js : List Nat) (e : Env) (h : AH) (Q : List (Env × AH) → Prop) : Oper → Prop := fun o => onG (wantedA ops o e) (Wo P K o e h (kl P K ops js o.dst e (kp e h Q))) (Wl P K ops js (putO e o.dst undef) h (kp e h Q))
@[simp ↓] theorem ko_at {ops : Array Oper} {js : List Nat} {Q : List (Env × AH) → Prop} {o : Oper} : ko P K ops js e h Q o = onG (wantedA ops o e) (Wo P K o e h (kl P K ops js o.dst e (kp e h Q))) (Wl P K ops js (putO e o.dst undef) h (kp e h Q)) := rfl
def kd (Q : Env → AH → Prop) : List (Env × AH) → Prop := fun l => ∃ y, l.getLast? = some y ∧ Q y.1 y.2
@[simp ↓] theorem kd_at {Q : Env → AH → Prop} {l : List (Env × AH)} : kd Q l = ∃ y, l.getLast? = some y ∧ Q y.1 y.2 := rfl
theorem Wl_cons {ops : Array Oper} {j : Nat} {js : List Nat} {Q : List (Env × AH) → Prop} : Wl P K ops (j :: js) e h Q =
    onO ops[j]? (ko P K ops js e h Q) := by
  cases ho : ops[j]? with
  | none =>
    refine propext ⟨?_, fun hq => hq.elim⟩
    rintro ⟨n, l, h1, h2⟩
    simp [runL, ho] at h1
  | some o =>
    simp only [onO, ko_at]
    cases hw : wantedA ops o e with
    | none =>
      refine propext ⟨?_, fun hq => hq.elim⟩
      rintro ⟨n, l, h1, h2⟩
      simp [runL, ho, hw] at h1
    | some b =>
      cases b with
      | true =>
        simp only [onG]
        refine propext ⟨?_, ?_⟩
        · rintro ⟨n, l, h1, h2⟩
          simp only [runL, ho, hw] at h1
          split at h1
          · rename_i v h3 hr
            split at h1
            · rename_i l2 hl2
              simp only [Option.some.injEq] at h1
              subst h1
              exact ⟨n, v, h3, hr, n, l2, hl2, h2⟩
            · simp at h1
          · simp at h1
        · rintro ⟨n, v, h3, h1, m, l, h4, h5⟩
          refine ⟨max n m, (e, h) :: l, ?_, h5⟩
          simp only [runL, ho, hw]
          rw [runOp_le (ex_le (Nat.le_max_left n m)) h1]
          simp only
          rw [runL_le (ex_le (Nat.le_max_right n m)) h4]
      | false =>
        simp only [onG]
        refine propext ⟨?_, ?_⟩
        · rintro ⟨n, l, h1, h2⟩
          simp only [runL, ho, hw] at h1
          split at h1
          · rename_i l2 hl2
            simp only [Option.some.injEq] at h1
            subst h1
            exact ⟨n, l2, hl2, h2⟩
          · simp at h1
        · rintro ⟨n, l, h4, h5⟩
          exact ⟨n, (e, h) :: l, by simp only [runL, ho, hw, h4], h5⟩
theorem Wd_plan {ops : Array Oper} {Q : Env → AH → Prop} {ord : List Nat} {ps : List (Nat × Nat)} (hp : plan P ops = some (ord, ps)) :
    Wd P K ops e h Q = Wl P K ops ord e h (fun l => ps.all (fun p => rereadAt P ops ord l p.1 p.2 && rereadAt P ops ord l p.1 (p.2 + 1)) = true ∧ ∃ y, l.getLast? = some y ∧ Q y.1 y.2) := by
  refine propext ⟨?_, ?_⟩
  · rintro ⟨n, e', h', h1, h2⟩
    unfold exDraw at h1
    rw [hp] at h1
    simp only at h1
    split at h1
    · rename_i l hl
      split at h1
      · rename_i hall
        exact ⟨n, l, hl, hall, (e', h'), h1, h2⟩
      · simp at h1
    · simp at h1
  · rintro ⟨n, l, hl, hall, y, h1, h2⟩
    refine ⟨n, y.1, y.2, ?_, h2⟩
    unfold exDraw
    rw [hp]
    simp only [hl, hall, h1]
/-- Drawn, with no one to be looked at again. -/
theorem Wd_calm {ops : Array Oper} {Q : Env → AH → Prop} {ord : List Nat} (hp : plan P ops = some (ord, [])) :
    Wd P K ops e h Q = Wl P K ops ord e h (kd Q) := by
  rw [Wd_plan hp]
  unfold kd
  simp only [List.all_nil, true_and]
attribute [simp ↓] Wl_cons
/-! ### Drawn, with no one to be looked at again: operation by operation -/
theorem runL_ne {r : Ex} {ops : Array Oper} : ∀ {os : List Nat} {e : Env} {h : AH} {l : List (Env × AH)}, runL P K r ops os e h = some l → l ≠ []
  | [], e, h, l, hr => by
    simp only [runL, Option.some.injEq] at hr
    rw [← hr]
    simp
  | j :: js, e, h, l, hr => by
    unfold runL at hr
    split at hr
    · split at hr
      · split at hr
        · split at hr
          · simp only [Option.some.injEq] at hr
            rw [← hr]
            simp
          · simp at hr
        · simp at hr
      · split at hr
        · simp only [Option.some.injEq] at hr
          rw [← hr]
          simp
        · simp at hr
      · simp at hr
    · simp at hr
def Wj (P : Program) (K : Xs) (ops : Array Oper) (os : List Nat) (e : Env) (h : AH) (Q : Env → AH → Prop) : Prop := Wl P K ops os e h (kd Q)
@[congr] theorem Wj_congr {ops : Array Oper} {os : List Nat} {e e' : Env} {h h' : AH} {Q : Env → AH → Prop} (he : e = e') (hh : h = h') : Wj P K ops os e h Q = Wj P K ops os e' h' Q := by rw [he, hh]
theorem Wj_calm {ops : Array Oper} {Q : Env → AH → Prop} {ord : List Nat} (hp : plan P ops = some (ord, [])) : Wd P K ops e h Q = Wj P K ops ord e h Q := Wd_calm hp
@[simp ↓] theorem Wj_nil {ops : Array Oper} {Q : Env → AH → Prop} : Wj P K ops [] e h Q = Q e h := by
  unfold Wj
  rw [Wl_nil, kd_at]
  simp
def kj (P : Program) (K : Xs) (ops : Array Oper) (js : List Nat) (d : Option Tmp) (e : Env) (Q : Env → AH → Prop) : Value → AH → Prop := fun v h' => Wj P K ops js (putO e d v) h' Q
@[simp ↓] theorem kj_at {ops : Array Oper} {js : List Nat} {d : Option Tmp} {Q : Env → AH → Prop} {v : Value} : kj P K ops js d e Q v h = Wj P K ops js (putO e d v) h Q := rfl
def kjo (P : Program) (K : Xs) (ops : Array Oper) (js : List Nat) (e : Env) (h : AH) (Q : Env → AH → Prop) : Oper → Prop := fun o => onG (wantedA ops o e) (Wo P K o e h (kj P K ops js o.dst e Q)) (Wj P K ops js (putO e o.dst undef) h Q)
@[simp ↓] theorem kjo_at {ops : Array Oper} {js : List Nat} {Q : Env → AH → Prop} {o : Oper} : kjo P K ops js e h Q o = onG (wantedA ops o e) (Wo P K o e h (kj P K ops js o.dst e Q)) (Wj P K ops js (putO e o.dst undef) h Q) := rfl
theorem Wl_tail {ops : Array Oper} {js : List Nat} {e1 : Env} {h1 : AH} {Q : Env → AH → Prop} : Wl P K ops js e h (kp e1 h1 (kd Q)) = Wj P K ops js e h Q := by
  refine propext ⟨?_, ?_⟩
  · rintro ⟨n, l, hl, y, h2, h3⟩
    refine ⟨n, l, hl, y, ?_, h3⟩
    cases l with
    | nil => exact absurd rfl (runL_ne hl)
    | cons a l => simpa [List.getLast?_cons] using h2
  · rintro ⟨n, l, hl, y, h2, h3⟩
    refine ⟨n, l, hl, y, ?_, h3⟩
    cases l with
    | nil => exact absurd rfl (runL_ne hl)
    | cons a l => simpa [List.getLast?_cons] using h2
@[simp ↓] theorem Wj_cons {ops : Array Oper} {j : Nat} {js : List Nat} {Q : Env → AH → Prop} : Wj P K ops (j :: js) e h Q = onO ops[j]? (kjo P K ops js e h Q) := by
  unfold Wj
  rw [Wl_cons]
  cases ops[j]? with
  | none => rfl
  | some o =>
    simp only [onO, ko_at, kjo_at, Wl_tail]
    have : kl P K ops js o.dst e (kp e h (kd Q)) = kj P K ops js o.dst e Q := by
      funext v h'
      rw [kl_at, Wl_tail]
      rfl
    rw [this]
/-! ## Values -/
@[simp] theorem aBin_add {t : TypeId} {k : IntKind} {a b : Int} : aBin P .add t (.int k a) (.int k b) = some (.int k (k.wrap (a + b))) := by simp [aBin, aInt]
@[simp] theorem aBin_sub {t : TypeId} {k : IntKind} {a b : Int} : aBin P .sub t (.int k a) (.int k b) = some (.int k (k.wrap (a - b))) := by simp [aBin, aInt]
@[simp] theorem aBin_mul {t : TypeId} {k : IntKind} {a b : Int} : aBin P .mul t (.int k a) (.int k b) = some (.int k (k.wrap (a * b))) := by simp [aBin, aInt]
@[simp] theorem aBin_quo {t : TypeId} {k : IntKind} {a b : Int} : aBin P .quo t (.int k a) (.int k b) = if b = 0 then none else some (.int k (k.wrap (a.tdiv b))) := by simp [aBin, aInt]
@[simp] theorem aBin_rem {t : TypeId} {k : IntKind} {a b : Int} : aBin P .rem t (.int k a) (.int k b) = if b = 0 then none else some (.int k (a.tmod b)) := by simp [aBin, aInt]
@[simp] theorem aBin_lss {t : TypeId} {k : IntKind} {a b : Int} : aBin P .lss t (.int k a) (.int k b) = some (.bool (decide (a < b))) := by simp [aBin, aInt]
@[simp] theorem aBin_leq {t : TypeId} {k : IntKind} {a b : Int} : aBin P .leq t (.int k a) (.int k b) = some (.bool (decide (a ≤ b))) := by simp [aBin, aInt]
@[simp] theorem aBin_gtr {t : TypeId} {k : IntKind} {a b : Int} : aBin P .gtr t (.int k a) (.int k b) = some (.bool (decide (b < a))) := by simp [aBin, aInt]
@[simp] theorem aBin_geq {t : TypeId} {k : IntKind} {a b : Int} : aBin P .geq t (.int k a) (.int k b) = some (.bool (decide (b ≤ a))) := by simp [aBin, aInt]
@[simp] theorem aBin_eql {t : TypeId} {k : IntKind} {a b : Int} : aBin P .eql t (.int k a) (.int k b) = some (.bool (decide (a = b))) := by simp [aBin, aInt]; rfl
@[simp] theorem aBin_neq {t : TypeId} {k : IntKind} {a b : Int} : aBin P .neq t (.int k a) (.int k b) = some (.bool (!decide (a = b))) := by simp [aBin, aInt]; rfl
@[simp] theorem aFieldAddr_at {s b off f : Nat} {fs : Array Field} {fd : Field} (h1 : P.underlying s = some (.struct fs)) (h2 : fs[f]? = some fd) (h3 : P.cellsOf fd.type ≠ 0) : aFieldAddr P s (.pointer (some ⟨b, off, none⟩)) f = some (.pointer (some ⟨b, off + fd.offset, none⟩)) := by
  simp [aFieldAddr, h1, h2, h3, ptr]
attribute [simp] ev_tmp
@[simp] theorem ev_const {v : Value} : ev e (.const v) = cond (plainV v) v undef := rfl
@[simp] theorem ev_func {f : FuncId} : ev e (.func f) = .func (.func f) #[] #[] := rfl
@[simp] theorem putO_some {d : Tmp} {v : Value} : putO e (some d) v = e.set d v := rfl
@[simp] theorem putO_none {v : Value} : putO e none v = e := rfl
attribute [simp] Tr.get_set Tr.get_ofList AH.get_set AH.get_alloc AH.get_del
attribute [simp] plainV
end
end Go.Am
