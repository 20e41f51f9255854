/- Printed: functions of the given program as functions over plain data, and that the machine does what they say; no claim of its own; no condition. -/
import Derived.Test.YtlkddekecegfdaaLfN
set_option maxRecDepth 100000
set_option maxHeartbeats 4000000
set_option linter.unusedVariables false
set_option linter.unusedSimpArgs false
namespace Go.AM
open Go

structure Isochronref16Draft where
  Bridges : Int
  Stations : Int
  Chords : (List Int)
  Homes : (List Int)
  Pers : (List Int)
  Delays : (List Int)
  deriving Inhabited
def eIsochronref16Draft : Enc Isochronref16Draft := eMap (fun s => (s.Bridges, s.Stations, s.Chords, s.Homes, s.Pers, s.Delays, ())) (ePair (eInt .u8) (ePair (eInt .u8) (ePair (eSl (eInt .u8)) (ePair (eSl (eInt .u8)) (ePair (eSl (eInt .u8)) (ePair (eSl (eInt .u8)) eUnit))))))
theorem eIsochronref16Draft_el {φ : Fz} {cs : List Value} {x : Isochronref16Draft} (h : eIsochronref16Draft.R φ cs x) : ∃ a163530 n163530 c163530, ∃ a163531 n163531 c163531, ∃ a163532 n163532 c163532, ∃ a163533 n163533 c163533, cs = [.int .u8 x.Bridges, .int .u8 x.Stations, .slice a163530 n163530 c163530, .slice a163531 n163531 c163531, .slice a163532 n163532 c163532, .slice a163533 n163533 c163533] ∧ RSl (eInt .u8) φ (.slice a163530 n163530 c163530) x.Chords ∧ RSl (eInt .u8) φ (.slice a163531 n163531 c163531) x.Homes ∧ RSl (eInt .u8) φ (.slice a163532 n163532 c163532) x.Pers ∧ RSl (eInt .u8) φ (.slice a163533 n163533 c163533) x.Delays := by
  obtain ⟨p1, r1, e1, g1, p2, r2, e2, g2, p3, r3, e3, g3, p4, r4, e4, g4, p5, r5, e5, g5, p6, r6, e6, g6, gl⟩ := h
  have gl : r6 = [] := gl
  have g1 : p1 = [.int .u8 x.Bridges] := g1
  have g2 : p2 = [.int .u8 x.Stations] := g2
  obtain ⟨a3, n3, c3, g3, R3⟩ := g3
  obtain ⟨a4, n4, c4, g4, R4⟩ := g4
  obtain ⟨a5, n5, c5, g5, R5⟩ := g5
  obtain ⟨a6, n6, c6, g6, R6⟩ := g6
  subst gl
  subst g1 g2 g3 g4 g5 g6
  subst e6
  subst e5
  subst e4
  subst e3
  subst e2
  subst e1
  exact ⟨a3, n3, c3, a4, n4, c4, a5, n5, c5, a6, n6, c6, rfl, R3, R4, R5, R6⟩
structure ApiLink where
  A : Int
  B : Int
  Per : Int
  Delay : Int
  deriving Inhabited
def eApiLink : Enc ApiLink := eMap (fun s => (s.A, s.B, s.Per, s.Delay, ())) (ePair (eInt .i64) (ePair (eInt .i64) (ePair (eInt .i64) (ePair (eInt .i64) eUnit))))
theorem eApiLink_el {φ : Fz} {cs : List Value} {x : ApiLink} (h : eApiLink.R φ cs x) : cs = [.int .i64 x.A, .int .i64 x.B, .int .i64 x.Per, .int .i64 x.Delay] := by
  obtain ⟨p1, r1, e1, g1, p2, r2, e2, g2, p3, r3, e3, g3, p4, r4, e4, g4, gl⟩ := h
  have gl : r4 = [] := gl
  have g1 : p1 = [.int .i64 x.A] := g1
  have g2 : p2 = [.int .i64 x.B] := g2
  have g3 : p3 = [.int .i64 x.Per] := g3
  have g4 : p4 = [.int .i64 x.Delay] := g4
  subst gl
  subst g1 g2 g3 g4
  subst e4
  subst e3
  subst e2
  subst e1
  exact rfl
structure ApiTopo where
  Nodes : Int
  Station : (List Bool)
  Links : (List ApiLink)
  deriving Inhabited
def eApiTopo : Enc ApiTopo := eMap (fun s => (s.Nodes, s.Station, s.Links, ())) (ePair (eInt .i64) (ePair (eSl eBool) (ePair (eSl eApiLink) eUnit)))
theorem eApiTopo_el {φ : Fz} {cs : List Value} {x : ApiTopo} (h : eApiTopo.R φ cs x) : ∃ a163534 n163534 c163534, ∃ a163535 n163535 c163535, cs = [.int .i64 x.Nodes, .slice a163534 n163534 c163534, .slice a163535 n163535 c163535] ∧ RSl eBool φ (.slice a163534 n163534 c163534) x.Station ∧ RSl eApiLink φ (.slice a163535 n163535 c163535) x.Links := by
  obtain ⟨p1, r1, e1, g1, p2, r2, e2, g2, p3, r3, e3, g3, gl⟩ := h
  have gl : r3 = [] := gl
  have g1 : p1 = [.int .i64 x.Nodes] := g1
  obtain ⟨a2, n2, c2, g2, R2⟩ := g2
  obtain ⟨a3, n3, c3, g3, R3⟩ := g3
  subst gl
  subst g1 g2 g3
  subst e3
  subst e2
  subst e1
  exact ⟨a2, n2, c2, a3, n3, c3, rfl, R2, R3⟩
structure TopoEnd where
  Link : ApiLink
  port : Int
  deriving Inhabited
def eTopoEnd : Enc TopoEnd := eMap (fun s => (s.Link, s.port, ())) (ePair eApiLink (ePair (eInt .i64) eUnit))
theorem eTopoEnd_el {φ : Fz} {cs : List Value} {x : TopoEnd} (h : eTopoEnd.R φ cs x) : cs = [.int .i64 x.Link.A, .int .i64 x.Link.B, .int .i64 x.Link.Per, .int .i64 x.Link.Delay, .int .i64 x.port] := by
  obtain ⟨p1, r1, e1, g1, p2, r2, e2, g2, gl⟩ := h
  have gl : r2 = [] := gl
  obtain g1 := eApiLink_el g1
  have g2 : p2 = [.int .i64 x.port] := g2
  subst gl
  subst g1 g2
  subst e2
  subst e1
  exact rfl
structure RouteWalk where
  Topo : ApiTopo
  deriving Inhabited
def eRouteWalk : Enc RouteWalk := eMap (fun s => (s.Topo, ())) (ePair eApiTopo eUnit)
theorem eRouteWalk_el {φ : Fz} {cs : List Value} {x : RouteWalk} (h : eRouteWalk.R φ cs x) : ∃ a163536 n163536 c163536, ∃ a163537 n163537 c163537, cs = [.int .i64 x.Topo.Nodes, .slice a163536 n163536 c163536, .slice a163537 n163537 c163537] ∧ RSl eBool φ (.slice a163536 n163536 c163536) x.Topo.Station ∧ RSl eApiLink φ (.slice a163537 n163537 c163537) x.Topo.Links := by
  obtain ⟨p1, r1, e1, g1, gl⟩ := h
  have gl : r1 = [] := gl
  obtain ⟨a1_0, n1_0, c1_0, a1_1, n1_1, c1_1, g1, R1_0, R1_1⟩ := eApiTopo_el g1
  subst gl
  subst g1
  subst e1
  exact ⟨a1_0, n1_0, c1_0, a1_1, n1_1, c1_1, rfl, R1_0, R1_1⟩


/-! isochron/isochronlaw21.line -/
def m_isochronlaw21_line : R ApiTopo :=
  .ok ((ApiTopo.mk 4 [true, false, false, true] [(ApiLink.mk 0 1 8 50), (ApiLink.mk 1 2 8 0), (ApiLink.mk 2 3 80 7)]))

/-! isochron/topo.isNode -/
def m_topo_isNode (p134 : ApiTopo) (p137 : Int) : R Bool :=
  sh ((decide (0 ≤ p137)) && (decide (p137 < p134.Nodes))) fun (s143 : Bool) =>
  (.ok s143)

/-! isochron/topo.validLink -/
def m_topo_validLink_l1 (e119 : ApiLink) (p107 : ApiTopo) (p110 : Int) (rec276 : Int → R Bool) (s248 : Int) : R Bool :=
  if (decide (s248 < ((p107.Links.take (p110).toNat).length : Int))) then (bindR (idx (p107.Links.take (p110).toNat) s248) fun e282 =>
  sh ((decide (e282.A = e119.A)) && (decide (e282.B = e119.B))) fun (s290 : Bool) =>
  (sh (s290 || ((decide (e282.A = e119.B)) && (decide (e282.B = e119.A)))) fun (s294 : Bool) =>
  (if s294 then (if (!(!(decide (0 ≤ s248)))) then (.ok false)
  else (.ok true))
  else (rec276 (w64 (s248 + 1))))))
  else (.ok true)
def m_topo_validLink (p107 : ApiTopo) (p110 : Int) : R Bool :=
  bindR (idx p107.Links p110) fun e119 =>
  bindR (m_topo_isNode p107 (e119.A)) fun e149 =>
  sh (fun (s159 : Bool) => (sh (s159 && (decide (e119.A ≠ e119.B))) fun (s163 : Bool) =>
  (if (!s163) then (.ok false)
  else (bindR (idx p107.Station e119.A) fun e167 =>
  sh (fun (s175 : Bool) => (if (!s175) then (.ok false)
  else (sh ((decide (1 ≤ e119.Per)) && (decide (e119.Per ≤ 1000))) fun (s180 : Bool) =>
  (sh (s180 && (decide (0 ≤ e119.Delay))) fun (s184 : Bool) =>
  (sh (s184 && (decide (e119.Delay ≤ 10000))) fun (s188 : Bool) =>
  (if (!s188) then (.ok false)
  else (bindR (must (decide (0 ≤ p110 ∧ p110 ≤ (p107.Links.length : Int)))) fun _ =>
  loopM (m_topo_validLink_l1 e119 p107 p110) LL 0))))))) fun j315 =>
  (if (!e167) then (j315 true)
  else (bindR (idx p107.Station e119.B) fun e318 =>
  j315 (!e318))))))) fun j324 =>
  (if e149 then (bindR (m_topo_isNode p107 (e119.B)) fun e327 =>
  j324 e327)
  else (j324 false))

/-! (isochron/topo.end).from -/
def m_topo_end_from (p397 : TopoEnd) : R Int :=
  if (decide ((Int.tmod p397.port 2) = 0)) then (.ok (p397.Link.A))
  else (.ok (p397.Link.B))

/-! isochron/topo.degree -/
def m_topo_degree_l1 (p345 : ApiTopo) (p348 : Int) (rec576 : (Int × Int) → R Int) (s511 : Int × Int) : R Int :=
  if (decide (s511.1 < (p345.Links.length : Int))) then (bindR (idx p345.Links s511.1) fun e582 =>
  bindR (m_topo_end_from ((TopoEnd.mk e582 (w64 (2 * s511.1))))) fun e600 =>
  sh (fun (s607 : Int) => (bindR (m_topo_end_from ((TopoEnd.mk e582 (w64 ((w64 (2 * s511.1)) + 1))))) fun e623 =>
  sh (fun (s630 : Int) => (rec576 ((w64 (s511.1 + 1)), s630))) fun j633 =>
  (if (decide (e623 = p348)) then (j633 (w64 (s607 + 1)))
  else (j633 s607)))) fun j610 =>
  (if (decide (e600 = p348)) then (j610 (w64 (s511.2 + 1)))
  else (j610 s511.2)))
  else (.ok (s511.2))
def m_topo_degree (p345 : ApiTopo) (p348 : Int) : R Int :=
  loopM (m_topo_degree_l1 p345 p348) LL (0, 0)

/-! (isochron/topo.end).to -/
def m_topo_end_to (p733 : TopoEnd) : R Int :=
  bindR (m_topo_end_from p733) fun e738 =>
  .ok ((w64 ((w64 (p733.Link.A + p733.Link.B)) - e738)))

/-! slices.Index[[]int,int] -/
def m_slices_Index_int_int_l1 (p745 : (List Int)) (p747 : Int) (rec772 : Int → R Int) (s764 : Int) : R Int :=
  if (decide (s764 < (p745.length : Int))) then (bindR (idx p745 s764) fun e778 =>
  if (decide (p747 = e778)) then (.ok s764)
  else (rec772 (w64 (s764 + 1))))
  else (.ok ((-1)))
def m_slices_Index_int_int (p745 : (List Int)) (p747 : Int) : R Int :=
  loopM (m_slices_Index_int_int_l1 p745 p747) LL 0

/-! slices.Contains[[]int,int] -/
def m_slices_Contains_int_int (p742 : (List Int)) (p744 : Int) : R Bool :=
  bindR (m_slices_Index_int_int p742 p744) fun e782 =>
  .ok ((decide (0 ≤ e782)))

/-! isochron/topo.reach -/
def m_topo_reach_l1 (p3339 : ApiTopo) (p3343 : (List Int)) (rec5308 : (List Bool) → R (List Bool)) (rec5798 : (Int × (List Bool)) → R (List Bool)) (s5640 : Int × (List Bool)) : R (List Bool) :=
  if (decide (s5640.1 < (p3339.Links.length : Int))) then (bindR (idx p3339.Links s5640.1) fun e5804 =>
  bindR (m_topo_end_from ((TopoEnd.mk e5804 (w64 (2 * s5640.1))))) fun e5822 =>
  bindR (idx s5640.2 e5822) fun e5826 =>
  sh (fun (s5838 : Bool) => (sh (fun (s5847 : Bool) => (if s5847 then (bindR (m_topo_end_to ((TopoEnd.mk e5804 (w64 (2 * s5640.1))))) fun e5851 =>
  bindR (idx s5640.2 e5851) fun e5855 =>
  rec5308 (s5640.2.set (e5851).toNat true))
  else (bindR (m_topo_end_from ((TopoEnd.mk e5804 (w64 ((w64 (2 * s5640.1)) + 1))))) fun e5876 =>
  bindR (idx s5640.2 e5876) fun e5880 =>
  sh (fun (s5892 : Bool) => (sh (fun (s5901 : Bool) => (if s5901 then (bindR (m_topo_end_to ((TopoEnd.mk e5804 (w64 ((w64 (2 * s5640.1)) + 1))))) fun e5905 =>
  bindR (idx s5640.2 e5905) fun e5909 =>
  rec5308 (s5640.2.set (e5905).toNat true))
  else (rec5798 ((w64 (s5640.1 + 1)), s5640.2)))) fun j5921 =>
  (if s5892 then (bindR (m_slices_Contains_int_int p3343 ((w64 (Int.tdiv (w64 ((w64 (2 * s5640.1)) + 1)) 2)))) fun e5924 =>
  j5921 (!e5924))
  else (j5921 false)))) fun j5928 =>
  (if e5880 then (bindR (m_topo_end_to ((TopoEnd.mk e5804 (w64 ((w64 (2 * s5640.1)) + 1))))) fun e5931 =>
  bindR (idx s5640.2 e5931) fun e5935 =>
  j5928 (!e5935))
  else (j5928 false))))) fun j5938 =>
  (if s5838 then (bindR (m_slices_Contains_int_int p3343 ((w64 (Int.tdiv (w64 (2 * s5640.1)) 2)))) fun e5941 =>
  j5938 (!e5941))
  else (j5938 false)))) fun j5945 =>
  (if e5826 then (bindR (m_topo_end_to ((TopoEnd.mk e5804 (w64 (2 * s5640.1))))) fun e5948 =>
  bindR (idx s5640.2 e5948) fun e5952 =>
  j5945 (!e5952))
  else (j5945 false)))
  else (.ok (s5640.2))
def m_topo_reach_l2 (p3339 : ApiTopo) (p3343 : (List Int)) (rec5308 : (List Bool) → R (List Bool)) (s4660 : (List Bool)) : R (List Bool) :=
  loopM (m_topo_reach_l1 p3339 p3343 rec5308) LL (0, s4660)
def m_topo_reach (p3339 : ApiTopo) (p3342 : Int) (p3343 : (List Int)) : R (List Bool) :=
  bindR (must (decide (0 ≤ p3339.Nodes ∧ p3339.Nodes ≤ 1000000000))) fun _ =>
  bindR (idx (List.replicate (p3339.Nodes).toNat false) p3342) fun e3361 =>
  loopM (m_topo_reach_l2 p3339 p3343) LL ((List.replicate (p3339.Nodes).toNat false).set (p3342).toNat true)

/-! slices.Index[[]bool,bool] -/
def m_slices_Index_bool_bool_l1 (p5971 : (List Bool)) (p5973 : Bool) (rec5998 : Int → R Int) (s5990 : Int) : R Int :=
  if (decide (s5990 < (p5971.length : Int))) then (bindR (idx p5971 s5990) fun e6004 =>
  if (p5973 == e6004) then (.ok s5990)
  else (rec5998 (w64 (s5990 + 1))))
  else (.ok ((-1)))
def m_slices_Index_bool_bool (p5971 : (List Bool)) (p5973 : Bool) : R Int :=
  loopM (m_slices_Index_bool_bool_l1 p5971 p5973) LL 0

/-! slices.Contains[[]bool,bool] -/
def m_slices_Contains_bool_bool (p5968 : (List Bool)) (p5970 : Bool) : R Bool :=
  bindR (m_slices_Index_bool_bool p5968 p5970) fun e6008 =>
  .ok ((decide (0 ≤ e6008)))

/-! isochron/topo.Check -/
def m_topo_Check_l1 (p83 : ApiTopo) (rec6784 : Int → R Int) (s6732 : Int) : R Int :=
  if (decide (s6732 < (p83.Station.length : Int))) then (bindR (idx p83.Station s6732) fun e6790 =>
  sh (fun (s6804 : Bool) => (if s6804 then (.ok 260)
  else (rec6784 (w64 (s6732 + 1))))) fun j6808 =>
  (if e6790 then (bindR (m_topo_degree p83 s6732) fun e6811 =>
  if (decide (e6811 < 1)) then (j6808 true)
  else (bindR (m_topo_degree p83 s6732) fun e6816 =>
  j6808 (decide (2 < e6816))))
  else (j6808 false)))
  else (bindR (m_topo_reach p83 0 ([])) fun e6820 =>
  bindR (m_slices_Contains_bool_bool e6820 false) fun e6833 =>
  if e6833 then (.ok 260)
  else (.ok 0))
def m_topo_Check_l2 (p83 : ApiTopo) (rec6617 : Int → R Int) (s6398 : Int) : R Int :=
  if (decide (s6398 < (p83.Links.length : Int))) then (bindR (m_topo_validLink p83 s6398) fun e6623 =>
  if (!e6623) then (.ok 260)
  else (rec6617 (w64 (s6398 + 1))))
  else (loopM (m_topo_Check_l1 p83) LL 0)
def m_topo_Check (p83 : ApiTopo) : R Int :=
  sh ((decide (p83.Nodes < 2)) || (decide (12 < p83.Nodes))) fun (s91 : Bool) =>
  (sh (s91 || (decide ((p83.Station.length : Int) ≠ p83.Nodes))) fun (s95 : Bool) =>
  (sh (s95 || (decide (24 < (p83.Links.length : Int)))) fun (s99 : Bool) =>
  (if s99 then (.ok 260)
  else (loopM (m_topo_Check_l2 p83) LL 0))))

/-! isochron/topo.From -/
def m_topo_From (p6971 : ApiTopo) (p6974 : Int) : R (Int × Int) :=
  bindR (m_topo_Check p6971) fun e6983 =>
  if (decide (e6983 ≠ 0)) then (.ok (0, e6983))
  else (sh ((decide (p6974 < 0)) || (decide ((w64 (2 * (p6971.Links.length : Int))) ≤ p6974))) fun (s6989 : Bool) =>
  (if s6989 then (.ok (0, 2))
  else (bindR (idx p6971.Links (w64 (Int.tdiv p6974 2))) fun e6993 =>
  bindR (m_topo_end_from ((TopoEnd.mk e6993 p6974))) fun e6996 =>
  .ok (e6996, 0))))

/-! (isochron/route.walk).from -/
def m_route_walk_from (p6963 : RouteWalk) (p6966 : Int) : R Int :=
  bindR (m_topo_From (p6963.Topo) p6966) fun e7003 =>
  .ok (e7003.1)

/-! isochron/topo.To -/
def m_topo_To (p7056 : ApiTopo) (p7059 : Int) : R (Int × Int) :=
  bindR (m_topo_Check p7056) fun e7068 =>
  if (decide (e7068 ≠ 0)) then (.ok (0, e7068))
  else (sh ((decide (p7059 < 0)) || (decide ((w64 (2 * (p7056.Links.length : Int))) ≤ p7059))) fun (s7074 : Bool) =>
  (if s7074 then (.ok (0, 2))
  else (bindR (idx p7056.Links (w64 (Int.tdiv p7059 2))) fun e7078 =>
  bindR (m_topo_end_to ((TopoEnd.mk e7078 p7059))) fun e7081 =>
  .ok (e7081, 0))))

/-! (isochron/route.walk).valid -/
def m_route_walk_valid_l1 (p6858 : RouteWalk) (p6861 : (List Int)) (rec7346 : (Int × (List Int)) → R Bool) (s7256 : Int × (List Int)) : R Bool :=
  if (decide (s7256.1 < (p6861.length : Int))) then (bindR (idx p6861 s7256.1) fun e7352 =>
  bindR (m_topo_To (p6858.Topo) e7352) fun e7359 =>
  bindR (m_slices_Contains_int_int (s7256.2) (e7359.1)) fun e7370 =>
  sh (fun (s7387 : Bool × (List Int)) => (sh (fun (s7398 : Bool) => (if s7398 then (.ok ((decide ((s7387.2.length : Int) = (w64 ((p6861.length : Int) + 1))))))
  else (bindR (must (okLen (s7387.2.length + ([e7359.1]).length))) fun _ =>
  rec7346 ((w64 (s7256.1 + 1)), (s7387.2 ++ ([e7359.1])))))) fun j7413 =>
  (if s7387.1 then (j7413 true)
  else (if (decide (0 < (s7256.2.length : Int))) then (if (decide ((s7256.2.length : Int) < (p6861.length : Int))) then (bindR (idx p6858.Topo.Station e7359.1) fun e7418 =>
  j7413 e7418)
  else (j7413 false))
  else (j7413 false))))) fun j7421 =>
  (if e7370 then (j7421 (true, s7256.2))
  else (if (decide (0 < (s7256.2.length : Int))) then (bindR (idx p6861 (w64 ((s7256.2.length : Int) - 1))) fun e7425 =>
  bindR (m_route_walk_from p6858 e7425) fun e7428 =>
  bindR (idx s7256.2 (w64 ((s7256.2.length : Int) - 1))) fun e7432 =>
  j7421 ((decide (e7428 ≠ e7432)), s7256.2))
  else (j7421 (false, s7256.2)))))
  else (.ok ((decide ((s7256.2.length : Int) = (w64 ((p6861.length : Int) + 1))))))
def m_route_walk_valid_l2 (j7443 : Bool → R Bool) (p6858 : RouteWalk) (p6861 : (List Int)) (rec7491 : Int → R Bool) (s7476 : Int) : R Bool :=
  if (decide (s7476 < (p6861.length : Int))) then (bindR (idx p6861 s7476) fun e7497 =>
  sh ((decide (e7497 < 0)) || (decide ((w64 (2 * (p6858.Topo.Links.length : Int))) ≤ e7497))) fun (s7501 : Bool) =>
  (if s7501 then (j7443 (decide (0 ≤ s7476)))
  else (rec7491 (w64 (s7476 + 1)))))
  else (j7443 false)
def m_route_walk_valid (p6858 : RouteWalk) (p6861 : (List Int)) : R Bool :=
  sh ((decide ((p6861.length : Int) < 1)) || (decide (8 < (p6861.length : Int)))) fun (s6872 : Bool) =>
  (sh (fun (s6939 : Bool) => (if s6939 then (.ok false)
  else (bindR (idx p6861 0) fun e7007 =>
  bindR (m_route_walk_from p6858 e7007) fun e7010 =>
  bindR (m_slices_Contains_int_int ([]) e7010) fun e7017 =>
  sh (fun (s7023 : Bool) => (sh (fun (s7028 : Bool) => (if s7028 then (.ok ((decide (0 = (w64 ((p6861.length : Int) + 1))))))
  else (bindR (must (okLen (([] : List Int).length + ([e7010]).length))) fun _ =>
  loopM (m_route_walk_valid_l1 p6858 p6861) LL (0, (([] : List Int) ++ ([e7010])))))) fun j7437 =>
  (if s7023 then (j7437 true)
  else (j7437 false)))) fun j7440 =>
  (if e7017 then (j7440 true)
  else (j7440 false))))) fun j7443 =>
  (if s6872 then (j7443 true)
  else (loopM (m_route_walk_valid_l2 j7443 p6858 p6861) LL 0)))

/-! isochron/route.Check -/
def m_route_Check (p74 : ApiTopo) (p77 : (List Int)) : R Int :=
  bindR (m_topo_Check p74) fun e6847 =>
  if (decide (e6847 ≠ 0)) then (.ok e6847)
  else (bindR (m_route_walk_valid ((RouteWalk.mk p74)) p77) fun e7511 =>
  if (!e7511) then (.ok 310)
  else (.ok 0))

/-! (isochron/route.walk).list -/
def m_route_walk_list_l1 (p7685 : RouteWalk) (p7688 : (List Int)) (rec7816 : (Int × (List Int)) → R (List Int)) (s7788 : Int × (List Int)) : R (List Int) :=
  if (decide (s7788.1 < (p7688.length : Int))) then (bindR (idx p7688 s7788.1) fun e7822 =>
  bindR (m_topo_To (p7685.Topo) e7822) fun e7829 =>
  bindR (must (okLen (s7788.2.length + ([e7829.1]).length))) fun _ =>
  rec7816 ((w64 (s7788.1 + 1)), (s7788.2 ++ ([e7829.1]))))
  else (.ok (s7788.2))
def m_route_walk_list (p7685 : RouteWalk) (p7688 : (List Int)) : R (List Int) :=
  bindR (idx p7688 0) fun e7714 =>
  bindR (m_route_walk_from p7685 e7714) fun e7717 =>
  bindR (must (okLen (([] : List Int).length + ([e7717]).length))) fun _ =>
  loopM (m_route_walk_list_l1 p7685 p7688) LL (0, (([] : List Int) ++ ([e7717])))

/-! isochron/route.Nodes -/
def m_route_Nodes (p7856 : ApiTopo) (p7859 : (List Int)) : R ((List Int) × Int) :=
  bindR (m_route_Check p7856 p7859) fun e7873 =>
  if (decide (e7873 ≠ 0)) then (.ok ([], e7873))
  else (bindR (m_route_walk_list ((RouteWalk.mk p7856)) p7859) fun e7882 =>
  .ok (e7882, 0))

/-! isochron/route.Ends -/
def m_route_Ends (p7916 : ApiTopo) (p7919 : (List Int)) : R (Int × Int × Int) :=
  bindR (m_route_Nodes p7916 p7919) fun e7925 =>
  if (decide (e7925.2 ≠ 0)) then (.ok (0, 0, e7925.2))
  else (bindR (idx e7925.1 0) fun e7935 =>
  bindR (idx e7925.1 (w64 ((e7925.1.length : Int) - 1))) fun e7938 =>
  .ok (e7935, e7938, 0))

/-! isochron/route.Delay$1 -/
def m_route_Delay_1 (p7995 : ApiLink) : R Int :=
  .ok (p7995.Delay)

/-! isochron/route.Delay -/
def m_route_Delay_l1 (p7951 : ApiTopo) (p7954 : (List Int)) (rec8032 : (Int × Int) → R (Int × Int)) (s8018 : Int × Int) : R (Int × Int) :=
  if (decide (s8018.2 < (p7954.length : Int))) then (bindR (idx p7954 s8018.2) fun e8038 =>
  bindR (idx p7951.Links (w64 (Int.tdiv e8038 2))) fun e8041 =>
  bindR (m_route_Delay_1 e8041) fun e8044 =>
  rec8032 ((w64 (s8018.1 + e8044)), (w64 (s8018.2 + 1))))
  else (.ok (s8018.1, 0))
def m_route_Delay (p7951 : ApiTopo) (p7954 : (List Int)) : R (Int × Int) :=
  bindR (m_route_Check p7951 p7954) fun e7976 =>
  if (decide (e7976 ≠ 0)) then (.ok (0, e7976))
  else (loopM (m_route_Delay_l1 p7951 p7954) LL (0, 0))

/-! isochron/route.Time -/
def m_route_Time_l1 (p8058 : ApiTopo) (p8061 : (List Int)) (p8063 : Int) (rec8149 : (Int × Int) → R (Int × Int)) (s8135 : Int × Int) : R (Int × Int) :=
  if (decide (s8135.2 < (p8061.length : Int))) then (bindR (idx p8061 s8135.2) fun e8155 =>
  bindR (idx p8058.Links (w64 (Int.tdiv e8155 2))) fun e8158 =>
  rec8149 ((w64 (s8135.1 + (w64 ((w64 (p8063 * e8158.Per)) + e8158.Delay)))), (w64 (s8135.2 + 1))))
  else (.ok (s8135.1, 0))
def m_route_Time (p8058 : ApiTopo) (p8061 : (List Int)) (p8063 : Int) : R (Int × Int) :=
  bindR (m_route_Check p8058 p8061) fun e8072 =>
  if (decide (e8072 ≠ 0)) then (.ok (0, e8072))
  else (sh ((decide (p8063 < 84)) || (decide (1542 < p8063))) fun (s8078 : Bool) =>
  (if s8078 then (.ok (0, 2))
  else (bindR (m_route_Check p8058 p8061) fun e8098 =>
  if (decide (e8098 ≠ 0)) then (.ok (0, e8098))
  else (loopM (m_route_Time_l1 p8058 p8061 p8063) LL (0, 0)))))

/-! isochron/route.Back -/
def m_route_Back_l1 (p8307 : (List Int)) (rec8409 : (Int × (List Int)) → R ((List Int) × Int)) (s8388 : Int × (List Int)) : R ((List Int) × Int) :=
  if (decide (0 ≤ s8388.1)) then (bindR (idx p8307 s8388.1) fun e8415 =>
  bindR (must (okLen (s8388.2.length + ([(bitXor .i64 e8415 1)]).length))) fun _ =>
  rec8409 ((w64 (s8388.1 - 1)), (s8388.2 ++ ([(bitXor .i64 e8415 1)]))))
  else (.ok (s8388.2, 0))
def m_route_Back (p8304 : ApiTopo) (p8307 : (List Int)) : R ((List Int) × Int) :=
  bindR (m_route_Check p8304 p8307) fun e8321 =>
  if (decide (e8321 ≠ 0)) then (.ok ([], e8321))
  else (loopM (m_route_Back_l1 p8307) LL ((w64 ((p8307.length : Int) - 1)), []))

/-! isochron/route.inner -/
def m_route_inner (p8535 : (List Int)) : R (List Int) :=
  bindR (must (decide (0 ≤ 1 ∧ 1 ≤ (w64 ((p8535.length : Int) - 1)) ∧ (w64 ((p8535.length : Int) - 1)) ≤ (w64 ((p8535.length : Int) - 1)) ∧ (w64 ((p8535.length : Int) - 1)) ≤ (p8535.length : Int) ∧ 0 < (p8535.length : Int) ∧ (p8535.length : Int) ≤ 1000000000))) fun _ =>
  .ok (((p8535.take ((w64 ((p8535.length : Int) - 1))).toNat).drop (1 : Int).toNat))

/-! isochron/route.meet -/
def m_route_meet_l1 (p8548 : (List Int)) (p8550 : (List Int)) (rec8592 : Int → R Bool) (s8580 : Int) : R Bool :=
  if (decide (s8580 < (p8548.length : Int))) then (bindR (idx p8548 s8580) fun e8598 =>
  bindR (m_slices_Contains_int_int p8550 e8598) fun e8601 =>
  if e8601 then (.ok ((decide (0 ≤ s8580))))
  else (rec8592 (w64 (s8580 + 1))))
  else (.ok false)
def m_route_meet (p8548 : (List Int)) (p8550 : (List Int)) : R Bool :=
  loopM (m_route_meet_l1 p8548 p8550) LL 0

/-! isochron/route.Apart -/
def m_route_Apart_l1 (e8464 : ((List Int) × Int)) (e8474 : ((List Int) × Int)) (e9538 : Int) (p8454 : (List Int)) (rec9532 : Int → R (Bool × Int)) (s9091 : Int) (rec9826 : Int → R (Bool × Int)) (s9732 : Int) : R (Bool × Int) :=
  if (decide (s9732 < (p8454.length : Int))) then (bindR (idx p8454 s9732) fun e9832 =>
  if (decide ((w64 (Int.tdiv e9538 2)) = (w64 (Int.tdiv e9832 2)))) then (if (decide (0 ≤ s9732)) then (sh (fun (s9856 : (List Int) × Bool) => (sh (fun (s9877 : Bool) => (.ok (s9877, 0))) fun j9882 =>
  (if s9856.2 then (bindR (m_route_inner (e8474.1)) fun e9889 =>
  bindR (m_route_meet e9889 (s9856.1)) fun e9894 =>
  j9882 (!e9894))
  else (j9882 false)))) fun j9898 =>
  (if (!(decide (0 ≤ s9091))) then (bindR (m_route_inner (e8464.1)) fun e9905 =>
  bindR (m_route_meet e9905 (e8474.1)) fun e9914 =>
  j9898 (e8464.1, (!e9914)))
  else (j9898 (e8464.1, false))))
  else (rec9532 (w64 (s9091 + 1))))
  else (rec9826 (w64 (s9732 + 1))))
  else (rec9532 (w64 (s9091 + 1)))
def m_route_Apart_l2 (e8464 : ((List Int) × Int)) (e8474 : ((List Int) × Int)) (p8452 : (List Int)) (p8454 : (List Int)) (rec9532 : Int → R (Bool × Int)) (s9091 : Int) : R (Bool × Int) :=
  if (decide (s9091 < (p8452.length : Int))) then (bindR (idx p8452 s9091) fun e9538 =>
  loopM (m_route_Apart_l1 e8464 e8474 e9538 p8454 rec9532 s9091) LL 0)
  else (bindR (m_route_inner (e8464.1)) fun e9926 =>
  bindR (m_route_meet e9926 (e8474.1)) fun e9935 =>
  sh (fun (s9954 : Bool) => (.ok (s9954, 0))) fun j9959 =>
  (if (!e9935) then (bindR (m_route_inner (e8474.1)) fun e9966 =>
  bindR (m_route_meet e9966 (e8464.1)) fun e9971 =>
  j9959 (!e9971))
  else (j9959 false)))
def m_route_Apart (p8449 : ApiTopo) (p8452 : (List Int)) (p8454 : (List Int)) : R (Bool × Int) :=
  bindR (m_route_Nodes p8449 p8452) fun e8464 =>
  if (decide (e8464.2 ≠ 0)) then (.ok (false, e8464.2))
  else (bindR (m_route_Nodes p8449 p8454) fun e8474 =>
  if (decide (e8474.2 ≠ 0)) then (.ok (false, e8474.2))
  else (loopM (m_route_Apart_l2 e8464 e8474 p8452 p8454) LL 0))

/-! isochron/route.Tree -/
def m_route_Tree_l1 (p14278 : ApiTopo) (p14281 : (List (List Int))) (s18002 : (List Int) × Bool × (List Int) × Int) (rec18489 : (Bool × Int) → R ((List Int) × Bool × Int)) (s18437 : Bool × Int) : R ((List Int) × Bool × Int) :=
  if (decide (s18437.2 < (p14281.length : Int))) then (bindR (idx p14281 s18437.2) fun e18495 =>
  sh (fun (s18519 : Bool) => (rec18489 (s18519, (w64 (s18437.2 + 1))))) fun j18522 =>
  (if s18437.1 then (bindR (idx e18495 0) fun e18525 =>
  bindR (m_route_walk_from ((RouteWalk.mk p14278)) e18525) fun e18528 =>
  bindR (idx p14281 0) fun e18532 =>
  bindR (idx e18532 0) fun e18536 =>
  bindR (m_route_walk_from ((RouteWalk.mk p14278)) e18536) fun e18539 =>
  j18522 (decide (e18528 = e18539)))
  else (j18522 false)))
  else (.ok (s18002.1, s18437.1, 0))
def m_route_Tree_l2 (e17506 : (List Int)) (p14278 : ApiTopo) (p14281 : (List (List Int))) (rec18273 : ((List Int) × Bool × (List Int) × Int) → R ((List Int) × Bool × Int)) (s18002 : (List Int) × Bool × (List Int) × Int) : R ((List Int) × Bool × Int) :=
  if (decide (s18002.2.2.2 < (e17506.length : Int))) then (bindR (idx s18002.1 s18002.2.2.2) fun e18279 =>
  sh (fun (s18300 : Bool) => (bindR (m_topo_To p14278 e18279) fun e18307 =>
  bindR (must (okLen (s18002.2.2.1.length + ([e18307.1]).length))) fun _ =>
  rec18273 (s18002.1, s18300, (s18002.2.2.1 ++ ([e18307.1])), (w64 (s18002.2.2.2 + 1))))) fun j18314 =>
  (if s18002.2.1 then (bindR (m_topo_To p14278 e18279) fun e18321 =>
  bindR (m_slices_Contains_int_int (s18002.2.2.1) (e18321.1)) fun e18329 =>
  j18314 (!e18329))
  else (j18314 false)))
  else (loopM (m_route_Tree_l1 p14278 p14281 s18002) LL (s18002.2.1, 0))
def m_route_Tree_l3 (p14278 : ApiTopo) (p14281 : (List (List Int))) (rec17482 : ((List Int) × Int) → R ((List Int) × Bool × Int)) (s16421 : (List Int) × Int) : R ((List Int) × Bool × Int) :=
  if (decide (s16421.2 < (p14281.length : Int))) then (bindR (idx p14281 s16421.2) fun e17488 =>
  bindR (m_route_walk_valid ((RouteWalk.mk p14278)) e17488) fun e17492 =>
  if (!e17492) then (.ok ([], false, 310))
  else (bindR (must (okLen (s16421.1.length + e17488.length))) fun _ =>
  rec17482 ((s16421.1 ++ e17488), (w64 (s16421.2 + 1)))))
  else (bindR (m_sort (s16421.1)) fun e17498 =>
  bindR (m_compact e17498) fun e17506 =>
  loopM (m_route_Tree_l2 e17506 p14278 p14281) LL (e17506, true, [], 0))
def m_route_Tree (p14278 : ApiTopo) (p14281 : (List (List Int))) : R ((List Int) × Bool × Int) :=
  bindR (m_topo_Check p14278) fun e14287 =>
  if (decide (e14287 ≠ 0)) then (.ok ([], false, e14287))
  else (loopM (m_route_Tree_l3 p14278 p14281) LL ([], 0))

/-! slices.Equal[[]int,int] -/
def m_slices_Equal_int_int_l1 (p18586 : (List Int)) (p18588 : (List Int)) (rec18624 : Int → R Bool) (s18613 : Int) : R Bool :=
  if (decide (s18613 < (p18586.length : Int))) then (bindR (idx p18586 s18613) fun e18630 =>
  bindR (idx p18588 s18613) fun e18633 =>
  if (decide (e18630 ≠ e18633)) then (.ok false)
  else (rec18624 (w64 (s18613 + 1))))
  else (.ok true)
def m_slices_Equal_int_int (p18586 : (List Int)) (p18588 : (List Int)) : R Bool :=
  if (decide ((p18586.length : Int) ≠ (p18588.length : Int))) then (.ok false)
  else (loopM (m_slices_Equal_int_int_l1 p18586 p18588) LL 0)

/-! slices.Equal[isochron/api.Route,int] -/
def m_slices_Equal_api_Route_int_l1 (p18672 : (List Int)) (p18674 : (List Int)) (rec18710 : Int → R Bool) (s18699 : Int) : R Bool :=
  if (decide (s18699 < (p18672.length : Int))) then (bindR (idx p18672 s18699) fun e18716 =>
  bindR (idx p18674 s18699) fun e18719 =>
  if (decide (e18716 ≠ e18719)) then (.ok false)
  else (rec18710 (w64 (s18699 + 1))))
  else (.ok true)
def m_slices_Equal_api_Route_int (p18672 : (List Int)) (p18674 : (List Int)) : R Bool :=
  if (decide ((p18672.length : Int) ≠ (p18674.length : Int))) then (.ok false)
  else (loopM (m_slices_Equal_api_Route_int_l1 p18672 p18674) LL 0)

/-! isochron/isochronlaw21.wakes -/
def m_isochronlaw21_wakes : R Bool :=
  bindR (m_isochronlaw21_line) fun e38 =>
  bindR (m_route_Nodes e38 ([0, 2, 4])) fun e7905 =>
  bindR (m_route_Ends e38 ([2, 4])) fun e7945 =>
  bindR (m_route_Delay e38 ([0, 2, 4])) fun e8052 =>
  bindR (m_route_Time e38 ([0, 2, 4]) 100) fun e8172 =>
  bindR (m_route_Back e38 ([0, 2, 4])) fun e8436 =>
  bindR (m_route_Apart e38 ([0]) ([2, 4])) fun e9983 =>
  bindR (m_route_Tree e38 ([[0, 2], [0, 2, 4]])) fun e18549 =>
  sh ((decide (e7905.2 = 0)) && (decide (e7945.2.2 = 0))) fun (s18559 : Bool) =>
  (sh (s18559 && (decide (e8052.2 = 0))) fun (s18563 : Bool) =>
  (sh (s18563 && (decide (e8172.2 = 0))) fun (s18567 : Bool) =>
  (sh (s18567 && (decide (e8436.2 = 0))) fun (s18571 : Bool) =>
  (sh (s18571 && (decide (e9983.2 = 0))) fun (s18575 : Bool) =>
  (sh (s18575 && (decide (e18549.2.2 = 0))) fun (s18579 : Bool) =>
  (sh (fun (s18649 : Bool) => (sh (s18649 && (decide (e7945.1 = 1))) fun (s18653 : Bool) =>
  (sh (s18653 && (decide (e7945.2.1 = 3))) fun (s18657 : Bool) =>
  (sh (s18657 && (decide (e8052.1 = 57))) fun (s18661 : Bool) =>
  (sh (s18661 && (decide (e8172.1 = 9657))) fun (s18665 : Bool) =>
  (sh (fun (s18735 : Bool) => (sh (s18735 && e9983.1) fun (s18739 : Bool) =>
  (sh (fun (s18758 : Bool) => (sh (s18758 && e18549.2.1) fun (s18762 : Bool) =>
  (sh (fun (s18777 : Bool) => (.ok s18777)) fun j18780 =>
  (if s18762 then (bindR (m_route_Check e38 ([0, 4])) fun e18789 =>
  j18780 (decide (e18789 = 310)))
  else (j18780 false))))) fun j18796 =>
  (if s18739 then (bindR (m_slices_Equal_int_int (e18549.1) ([0, 2, 4])) fun e18809 =>
  j18796 e18809)
  else (j18796 false))))) fun j18816 =>
  (if s18665 then (bindR (m_slices_Equal_api_Route_int (e8436.1) ([5, 3, 1])) fun e18829 =>
  j18816 e18829)
  else (j18816 false)))))))) fun j18845 =>
  (if s18579 then (bindR (m_slices_Equal_int_int (e7905.1) ([0, 1, 2, 3])) fun e18858 =>
  j18845 e18858)
  else (j18845 false))))))))

/-! isochron/isochronref16.pick -/
def m_isochronref16_pick (p18941 : (List Int)) (p18943 : Int) : R Int :=
  if (decide (p18943 < (p18941.length : Int))) then (bindR (idx p18941 p18943) fun e18945 =>
  .ok ((w64 e18945)))
  else (.ok 0)

/-! isochron/isochronref16.node -/
def m_isochronref16_node (p18977 : ApiTopo) (p18980 : Int) : R Bool :=
  sh ((decide (0 ≤ p18980)) && (decide (p18980 < p18977.Nodes))) fun (s18986 : Bool) =>
  (.ok s18986)

/-! isochron/isochronref16.link -/
def m_isochronref16_link (p18965 : ApiTopo) (p18968 : ApiLink) : R Bool :=
  bindR (m_isochronref16_node p18965 (p18968.A)) fun e18992 =>
  sh (fun (s19002 : Bool) => (sh (s19002 || (decide (p18968.A = p18968.B))) fun (s19006 : Bool) =>
  (sh (fun (s19018 : Bool) => (if s19018 then (.ok false)
  else (sh ((decide (1 ≤ p18968.Per)) && (decide (p18968.Per ≤ 1000))) fun (s19023 : Bool) =>
  (sh (s19023 && (decide (0 ≤ p18968.Delay))) fun (s19027 : Bool) =>
  (sh (s19027 && (decide (p18968.Delay ≤ 10000))) fun (s19031 : Bool) =>
  (.ok s19031)))))) fun j19043 =>
  (if s19006 then (j19043 true)
  else (bindR (idx p18965.Station p18968.A) fun e19046 =>
  if e19046 then (bindR (idx p18965.Station p18968.B) fun e19050 =>
  j19043 e19050)
  else (j19043 false)))))) fun j19056 =>
  (if (!e18992) then (j19056 true)
  else (bindR (m_isochronref16_node p18965 (p18968.B)) fun e19059 =>
  j19056 (!e19059)))

/-! isochron/isochronref16.Joins -/
def m_isochronref16_Joins (p19080 : ApiLink) (p19081 : Int) (p19082 : Int) : R Bool :=
  sh ((decide (p19080.A = p19081)) && (decide (p19080.B = p19082))) fun (s19088 : Bool) =>
  (sh (s19088 || ((decide (p19080.A = p19082)) && (decide (p19080.B = p19081)))) fun (s19092 : Bool) =>
  (.ok s19092))

/-! (isochron/isochronref16.Draft).with -/
def m_isochronref16_Draft_with_l1 (e19297 : Int) (e19301 : Int) (p19272 : ApiTopo) (p19279 : Int) (p19280 : Int) (rec19389 : (Int × (List ApiLink)) → R ApiTopo) (s19367 : Int × (List ApiLink)) : R ApiTopo :=
  if (decide (s19367.1 < (p19272.Links.length : Int))) then (bindR (idx s19367.2 s19367.1) fun e19395 =>
  bindR (m_isochronref16_Joins e19395 p19279 p19280) fun e19398 =>
  if e19398 then (.ok ((ApiTopo.mk p19272.Nodes p19272.Station s19367.2)))
  else (rec19389 ((w64 (s19367.1 + 1)), s19367.2)))
  else (bindR (must (okLen (s19367.2.length + ([(ApiLink.mk p19279 p19280 (w64 (1 + (Int.tmod e19297 20))) (Int.tmod e19301 50))]).length))) fun _ =>
  .ok ((ApiTopo.mk p19272.Nodes p19272.Station (s19367.2 ++ ([(ApiLink.mk p19279 p19280 (w64 (1 + (Int.tmod e19297 20))) (Int.tmod e19301 50))])))))
def m_isochronref16_Draft_with (p19267 : Isochronref16Draft) (p19272 : ApiTopo) (p19279 : Int) (p19280 : Int) : R ApiTopo :=
  bindR (m_isochronref16_pick (p19267.Pers) ((p19272.Links.length : Int))) fun e19297 =>
  bindR (m_isochronref16_pick (p19267.Delays) ((p19272.Links.length : Int))) fun e19301 =>
  sh (fun (s19318 : Bool) => (if s19318 then (.ok p19272)
  else (loopM (m_isochronref16_Draft_with_l1 e19297 e19301 p19272 p19279 p19280) LL (0, p19272.Links)))) fun j19412 =>
  (if (decide ((p19272.Links.length : Int) = 24)) then (j19412 true)
  else (bindR (m_isochronref16_link p19272 ((ApiLink.mk p19279 p19280 (w64 (1 + (Int.tmod e19297 20))) (Int.tmod e19301 50)))) fun e19419 =>
  j19412 (!e19419)))

/-! (isochron/isochronref16.Draft).Topo -/
def m_isochronref16_Draft_Topo_l1 (p90277 : Isochronref16Draft) (rec161111 : (Int × Int × (List Bool) × (List ApiLink)) → R ApiTopo) (s161072 : Int × Int × (List Bool) × (List ApiLink)) : R ApiTopo :=
  sh ((decide ((w64 (s161072.1 + 1)) < (p90277.Chords.length : Int))) && (decide (s161072.1 < 12))) fun (s161117 : Bool) =>
  (if s161117 then (bindR (idx p90277.Chords s161072.1) fun e161121 =>
  bindR (must (decide ((w64 (1 + (w64 (Int.tmod p90277.Bridges 6)))) ≠ 0))) fun _ =>
  bindR (idx p90277.Chords (w64 (s161072.1 + 1))) fun e161125 =>
  bindR (must (decide ((w64 (1 + (w64 (Int.tmod p90277.Bridges 6)))) ≠ 0))) fun _ =>
  bindR (m_isochronref16_Draft_with p90277 ((ApiTopo.mk s161072.2.1 s161072.2.2.1 s161072.2.2.2)) ((Int.tmod (w64 e161121) (w64 (1 + (w64 (Int.tmod p90277.Bridges 6)))))) ((Int.tmod (w64 e161125) (w64 (1 + (w64 (Int.tmod p90277.Bridges 6))))))) fun e161129 =>
  rec161111 ((w64 (s161072.1 + 2)), e161129.Nodes, e161129.Station, e161129.Links))
  else (.ok ((ApiTopo.mk s161072.2.1 s161072.2.2.1 s161072.2.2.2))))
def m_isochronref16_Draft_Topo_l2 (p90277 : Isochronref16Draft) (rec160942 : (Int × Int × (List Bool) × (List ApiLink)) → R ApiTopo) (s160734 : Int × Int × (List Bool) × (List ApiLink)) : R ApiTopo :=
  if (decide (s160734.1 < (w64 (2 + (w64 (Int.tmod p90277.Stations 5)))))) then (bindR (m_isochronref16_pick (p90277.Homes) ((w64 ((w64 (2 * s160734.1)) + 1)))) fun e160948 =>
  sh (fun (s160971 : Int × (List Bool) × (List ApiLink)) => (rec160942 ((w64 (s160734.1 + 1)), s160971.1, s160971.2.1, s160971.2.2))) fun j160979 =>
  (if (decide (0 < (Int.tmod e160948 3))) then (bindR (m_isochronref16_pick (p90277.Homes) ((w64 ((w64 (2 * s160734.1)) + 1)))) fun e160981 =>
  bindR (must (decide ((w64 (1 + (w64 (Int.tmod p90277.Bridges 6)))) ≠ 0))) fun _ =>
  bindR (m_isochronref16_Draft_with p90277 ((ApiTopo.mk s160734.2.1 s160734.2.2.1 s160734.2.2.2)) ((w64 ((w64 (1 + (w64 (Int.tmod p90277.Bridges 6)))) + s160734.1))) ((Int.tmod e160981 (w64 (1 + (w64 (Int.tmod p90277.Bridges 6))))))) fun e160986 =>
  j160979 (e160986.Nodes, e160986.Station, e160986.Links))
  else (j160979 (s160734.2.1, s160734.2.2.1, s160734.2.2.2))))
  else (loopM (m_isochronref16_Draft_Topo_l1 p90277) LL (0, s160734.2.1, s160734.2.2.1, s160734.2.2.2))
def m_isochronref16_Draft_Topo_l3 (p90277 : Isochronref16Draft) (rec160272 : (Int × Int × (List Bool) × (List ApiLink)) → R ApiTopo) (s159379 : Int × Int × (List Bool) × (List ApiLink)) : R ApiTopo :=
  if (decide (s159379.1 < (w64 (2 + (w64 (Int.tmod p90277.Stations 5)))))) then (bindR (m_isochronref16_pick (p90277.Homes) ((w64 (2 * s159379.1)))) fun e160278 =>
  bindR (must (decide ((w64 (1 + (w64 (Int.tmod p90277.Bridges 6)))) ≠ 0))) fun _ =>
  bindR (m_isochronref16_Draft_with p90277 ((ApiTopo.mk s159379.2.1 s159379.2.2.1 s159379.2.2.2)) ((w64 ((w64 (1 + (w64 (Int.tmod p90277.Bridges 6)))) + s159379.1))) ((Int.tmod e160278 (w64 (1 + (w64 (Int.tmod p90277.Bridges 6))))))) fun e160283 =>
  rec160272 ((w64 (s159379.1 + 1)), e160283.Nodes, e160283.Station, e160283.Links))
  else (sh ((decide (2 < (w64 (1 + (w64 (Int.tmod p90277.Bridges 6)))))) && (decide ((Int.tmod p90277.Bridges 2) = 0))) fun (s160297 : Bool) =>
  (sh (fun (s160313 : Int × (List Bool) × (List ApiLink)) => (loopM (m_isochronref16_Draft_Topo_l2 p90277) LL (0, s160313.1, s160313.2.1, s160313.2.2))) fun j160321 =>
  (if s160297 then (bindR (m_isochronref16_Draft_with p90277 ((ApiTopo.mk s159379.2.1 s159379.2.2.1 s159379.2.2.2)) ((w64 ((w64 (1 + (w64 (Int.tmod p90277.Bridges 6)))) - 1))) 0) fun e161147 =>
  j160321 (e161147.Nodes, e161147.Station, e161147.Links))
  else (j160321 (s159379.2.1, s159379.2.2.1, s159379.2.2.2)))))
def m_isochronref16_Draft_Topo_l4 (p90277 : Isochronref16Draft) (rec157580 : (Int × Int × (List Bool) × (List ApiLink)) → R ApiTopo) (s153995 : Int × Int × (List Bool) × (List ApiLink)) : R ApiTopo :=
  if (decide (s153995.1 < (w64 (1 + (w64 (Int.tmod p90277.Bridges 6)))))) then (bindR (m_isochronref16_Draft_with p90277 ((ApiTopo.mk s153995.2.1 s153995.2.2.1 s153995.2.2.2)) ((w64 (s153995.1 - 1))) (s153995.1)) fun e157586 =>
  rec157580 ((w64 (s153995.1 + 1)), e157586.Nodes, e157586.Station, e157586.Links))
  else (loopM (m_isochronref16_Draft_Topo_l3 p90277) LL (0, s153995.2.1, s153995.2.2.1, s153995.2.2.2))
def m_isochronref16_Draft_Topo_l5 (p90277 : Isochronref16Draft) (rec142321 : (Int × (List Bool)) → R ApiTopo) (s123480 : Int × (List Bool)) : R ApiTopo :=
  if (decide (s123480.1 < (w64 ((w64 (1 + (w64 (Int.tmod p90277.Bridges 6)))) + (w64 (2 + (w64 (Int.tmod p90277.Stations 5)))))))) then (bindR (must (okLen (s123480.2.length + ([(decide ((w64 (1 + (w64 (Int.tmod p90277.Bridges 6)))) ≤ s123480.1))]).length))) fun _ =>
  rec142321 ((w64 (s123480.1 + 1)), (s123480.2 ++ ([(decide ((w64 (1 + (w64 (Int.tmod p90277.Bridges 6)))) ≤ s123480.1))]))))
  else (loopM (m_isochronref16_Draft_Topo_l4 p90277) LL (1, (w64 ((w64 (1 + (w64 (Int.tmod p90277.Bridges 6)))) + (w64 (2 + (w64 (Int.tmod p90277.Stations 5)))))), s123480.2, []))
def m_isochronref16_Draft_Topo (p90277 : Isochronref16Draft) : R ApiTopo :=
  loopM (m_isochronref16_Draft_Topo_l5 p90277) LL (0, [])

/-! isochron/isochronref16.From -/
def m_isochronref16_From (p161208 : ApiTopo) (p161211 : Int) : R Int :=
  bindR (idx p161208.Links (w64 (Int.tdiv p161211 2))) fun e161216 =>
  if (decide ((Int.tmod p161211 2) = 1)) then (.ok (e161216.B))
  else (.ok (e161216.A))

/-! isochron/isochronref16.Ports -/
def m_isochronref16_Ports_l1 (p161317 : ApiTopo) (p161320 : Int) (rec161397 : ((List Int) × Int) → R (List Int)) (s161374 : (List Int) × Int) : R (List Int) :=
  if (decide (s161374.2 < (w64 (2 * (p161317.Links.length : Int))))) then (bindR (m_isochronref16_From p161317 (s161374.2)) fun e161403 =>
  sh (fun (s161411 : (List Int)) => (rec161397 (s161411, (w64 (s161374.2 + 1))))) fun j161415 =>
  (if (decide (e161403 = p161320)) then (bindR (must (okLen (s161374.1.length + ([s161374.2]).length))) fun _ =>
  j161415 (s161374.1 ++ ([s161374.2])))
  else (j161415 s161374.1)))
  else (.ok (s161374.1))
def m_isochronref16_Ports (p161317 : ApiTopo) (p161320 : Int) : R (List Int) :=
  loopM (m_isochronref16_Ports_l1 p161317 p161320) LL ([], 0)

/-! isochron/isochronref16.To -/
def m_isochronref16_To (p161435 : ApiTopo) (p161438 : Int) : R Int :=
  bindR (idx p161435.Links (w64 (Int.tdiv p161438 2))) fun e161443 =>
  if (decide ((Int.tmod p161438 2) = 1)) then (.ok (e161443.A))
  else (.ok (e161443.B))

/-! isochron/isochronref16.In -/
def m_isochronref16_In_l1 (p161453 : (List Int)) (p161455 : Int) (rec161480 : Int → R Bool) (s161472 : Int) : R Bool :=
  if (decide (s161472 < (p161453.length : Int))) then (bindR (idx p161453 s161472) fun e161486 =>
  if (decide (e161486 = p161455)) then (.ok true)
  else (rec161480 (w64 (s161472 + 1))))
  else (.ok false)
def m_isochronref16_In (p161453 : (List Int)) (p161455 : Int) : R Bool :=
  loopM (m_isochronref16_In_l1 p161453 p161455) LL 0

/-! isochron/isochronref21.Some -/
def m_isochronref21_Some_l1 (p162431 : ApiTopo) (p162435 : Int) (rec163159 : (Int × (List Int) × (List Int)) → R (List Int)) (s162915 : Int × (List Int) × (List Int)) (rec163338 : ((List Int) × (List Int) × Int) → R (List Int)) (s163282 : (List Int) × (List Int) × Int) : R (List Int) :=
  if (decide (s163282.2.2 < (s163282.2.1.length : Int))) then (bindR (idx s163282.2.1 s163282.2.2) fun e163344 =>
  bindR (m_isochronref16_To p162431 e163344) fun e163347 =>
  bindR (m_isochronref16_In (s162915.2.1) e163347) fun e163355 =>
  sh (fun (s163366 : (List Int)) => (rec163338 (s163366, s163282.2.1, (w64 (s163282.2.2 + 1))))) fun j163370 =>
  (if (!e163355) then (bindR (idx s163282.2.1 s163282.2.2) fun e163372 =>
  bindR (must (okLen (s163282.1.length + ([e163372]).length))) fun _ =>
  j163370 (s163282.1 ++ ([e163372])))
  else (j163370 s163282.1)))
  else (if (decide ((s163282.1.length : Int) = 0)) then (.ok (s162915.2.2))
  else (bindR (must (decide ((s163282.1.length : Int) ≠ 0))) fun _ =>
  bindR (idx s163282.1 (Int.tmod (w64 ((w64 p162435) + (w64 (3 * (s162915.2.2.length : Int))))) (s163282.1.length : Int))) fun e163380 =>
  bindR (must (okLen (s162915.2.2.length + ([e163380]).length))) fun _ =>
  bindR (m_isochronref16_To p162431 e163380) fun e163386 =>
  bindR (must (okLen (s162915.2.1.length + ([e163386]).length))) fun _ =>
  rec163159 (e163386, (s162915.2.1 ++ ([e163386])), (s162915.2.2 ++ ([e163380])))))
def m_isochronref21_Some_l2 (p162431 : ApiTopo) (p162435 : Int) (rec163159 : (Int × (List Int) × (List Int)) → R (List Int)) (s162915 : Int × (List Int) × (List Int)) : R (List Int) :=
  sh (fun (s163170 : Bool) => (if s163170 then (bindR (m_isochronref16_Ports p162431 (s162915.1)) fun e163174 =>
  loopM (m_isochronref21_Some_l1 p162431 p162435 rec163159 s162915) LL ([], e163174, 0))
  else (.ok (s162915.2.2)))) fun j163393 =>
  (if (decide ((s162915.2.2.length : Int) < 8)) then (if (decide ((s162915.2.2.length : Int) = 0)) then (j163393 true)
  else (bindR (idx p162431.Station s162915.1) fun e163397 =>
  j163393 (!e163397)))
  else (j163393 false))
def m_isochronref21_Some (p162431 : ApiTopo) (p162434 : Int) (p162435 : Int) : R (List Int) :=
  bindR (must (decide (p162431.Nodes ≠ 0))) fun _ =>
  loopM (m_isochronref21_Some_l2 p162431 p162435) LL ((Int.tmod (w64 p162434) p162431.Nodes), [(Int.tmod (w64 p162434) p162431.Nodes)], [])

/-! isochron/isochronlaw21.RouteEither -/
def m_isochronlaw21_RouteEither (p1 : Isochronref16Draft) (p6 : Int) (p7 : Int) (p8 : Int) (p9 : Int) : R Bool :=
  bindR (m_isochronlaw21_wakes) fun e18880 =>
  if (!e18880) then (.ok false)
  else (bindR (m_isochronref16_Draft_Topo p1) fun e161165 =>
  bindR (m_isochronref21_Some e161165 p6 p7) fun e163406 =>
  bindR (m_isochronref21_Some e161165 p8 p9) fun e163415 =>
  bindR (m_route_Apart e161165 e163406 e163415) fun e163432 =>
  bindR (m_route_Apart e161165 e163415 e163406) fun e163444 =>
  bindR (m_route_Apart e161165 e163406 e163406) fun e163452 =>
  bindR (m_route_Back e161165 e163415) fun e163460 =>
  bindR (m_route_Apart e161165 e163406 (e163460.1)) fun e163477 =>
  sh ((decide (e163432.2 = 0)) && (decide (e163444.2 = 0))) fun (s163482 : Bool) =>
  (sh (s163482 && (decide (e163452.2 = 0))) fun (s163486 : Bool) =>
  (sh (s163486 && (decide (e163460.2 = 0))) fun (s163490 : Bool) =>
  (sh (s163490 && (decide (e163477.2 = 0))) fun (s163494 : Bool) =>
  (sh (s163494 && (e163432.1 == e163444.1)) fun (s163498 : Bool) =>
  (sh (s163498 && (e163432.1 == e163477.1)) fun (s163502 : Bool) =>
  (sh (s163502 && (!e163452.1)) fun (s163506 : Bool) =>
  (.ok s163506))))))))
end Go.AM
