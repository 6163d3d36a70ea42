/- The functions' plain forms. Printed by go3.py. No conditions. -/
import Derived.Test.YtmmijieefobdgaaGreatF43D1
set_option linter.all false
set_option maxRecDepth 100000
open Go Go.Rx Go.Proofs Go.RowKit
namespace GoForm
noncomputable def input_applyToBody (w0 : World_) (x1 : Input) : Option (World_ × Int) :=
  Rx.Bind (world_FindBody w0 x1.ID) fun (r1573 : Int) =>
  Let (decide (r1573 < (0 : Int))) fun (x1574 : Bool) =>
  if x1574 = true then
  some
  ({ Settings := { TimeStep := (0 : Int), Gravity := { X := (0 : Int), Y := (0 : Int) : Vec }, Iterations := (0 : Int), SleepSteps := (0 : Int) : Settings }, Bodies := [], Joints := [], Contacts := [], Overlaps := [], NextID := (0 : Int), Frame := (0 : Int) : World_ },
  (8 : Int))
  else
  Chk ((0 : Int) ≤ r1573 ∧ r1573 < (↑w0.Bodies.length : Int))
  (Let (ix w0.Bodies r1573) fun (x1575 : Body) =>
  Rx.Bind (input_checkBody x1575 x1) fun (r1576 : Int) =>
  Let (r1576 != (0 : Int)) fun (x1577 : Bool) =>
  if x1577 = true then
  some
  ({ Settings := { TimeStep := (0 : Int), Gravity := { X := (0 : Int), Y := (0 : Int) : Vec }, Iterations := (0 : Int), SleepSteps := (0 : Int) : Settings }, Bodies := [], Joints := [], Contacts := [], Overlaps := [], NextID := (0 : Int), Frame := (0 : Int) : World_ },
  r1576)
  else
  Rx.Bind (world_Clone w0) fun (r1578 : World_) =>
  Chk ((0 : Int) ≤ r1573 ∧ r1573 < (↑r1578.Bodies.length : Int))
  (Chk ((0 : Int) ≤ r1573 ∧ r1573 < (↑r1578.Bodies.length : Int))
  (Let (ix r1578.Bodies r1573) fun (x1579 : Body) =>
  Rx.Bind (input_changed x1579 x1) fun (r1580 : Body) =>
  Chk ((0 : Int) ≤ r1573 ∧ r1573 < (↑r1578.Bodies.length : Int))
  (Chk ((0 : Int) ≤ r1573 ∧ r1573 < (↑r1578.Bodies.length : Int))
  (Let (r1578.Bodies.set r1573.toNat r1580) fun (x1581 : List Body) =>
  Rx.Bind
  (world_WakeBody
  { Settings := r1578.Settings, Bodies := x1581, Joints := r1578.Joints, Contacts := r1578.Contacts, Overlaps := r1578.Overlaps, NextID := r1578.NextID, Frame := r1578.Frame : World_ }
  x1.ID)
  fun (r1582 : World_) => some (r1582, (0 : Int)))))))

noncomputable def input_Apply (w0 : World_) (x1 : Input) : Option (World_ × Int × Int) :=
  Rx.Bind (world_Validate w0) fun (r1583 : Int) =>
  Let (r1583 != (0 : Int)) fun (x1584 : Bool) =>
  if x1584 = true then
  some
  ({ Settings := { TimeStep := (0 : Int), Gravity := { X := (0 : Int), Y := (0 : Int) : Vec }, Iterations := (0 : Int), SleepSteps := (0 : Int) : Settings }, Bodies := [], Joints := [], Contacts := [], Overlaps := [], NextID := (0 : Int), Frame := (0 : Int) : World_ },
  (0 : Int), (18 : Int))
  else
  Rx.Bind (input_Validate x1) fun (r1585 : Int) =>
  Let (r1585 != (0 : Int)) fun (x1586 : Bool) =>
  if x1586 = true then
  some
  ({ Settings := { TimeStep := (0 : Int), Gravity := { X := (0 : Int), Y := (0 : Int) : Vec }, Iterations := (0 : Int), SleepSteps := (0 : Int) : Settings }, Bodies := [], Joints := [], Contacts := [], Overlaps := [], NextID := (0 : Int), Frame := (0 : Int) : World_ },
  (0 : Int), r1585)
  else
  Let (x1.Kind == (9 : Int)) fun (x1587 : Bool) =>
  if x1587 = true then Rx.Bind (world_AddBody w0 x1.Body) fun (r1588 : World_ × Int × Int) => some r1588
  else
  Let (x1.Kind == (11 : Int)) fun (x1589 : Bool) =>
  if x1589 = true then Rx.Bind (world_AddJoint w0 x1.Joint) fun (r1590 : World_ × Int × Int) => some r1590
  else
  Let (x1.Kind == (10 : Int)) fun (x1591 : Bool) =>
  if x1591 = true then
  Rx.Bind (world_RemoveBody w0 x1.ID) fun (r1592 : World_ × Int) => some (r1592.fst, (0 : Int), r1592.snd)
  else
  Let (x1.Kind == (12 : Int)) fun (x1593 : Bool) =>
  if x1593 = true then
  Rx.Bind (world_RemoveJoint w0 x1.ID) fun (r1594 : World_ × Int) => some (r1594.fst, (0 : Int), r1594.snd)
  else
  Join
  (fun (v1595 : Bool) =>
  if v1595 = true then
  Rx.Bind (input_applyToJoint w0 x1) fun (r1596 : World_ × Int) => some (r1596.fst, (0 : Int), r1596.snd)
  else Rx.Bind (input_applyToBody w0 x1) fun (r1597 : World_ × Int) => some (r1597.fst, (0 : Int), r1597.snd))
  fun (j1598 : Bool → Option (World_ × Int × Int)) =>
  Let (x1.Kind == (7 : Int)) fun (x1599 : Bool) =>
  if x1599 = true then j1598 x1599 else Let (x1.Kind == (8 : Int)) fun (x1600 : Bool) => j1598 x1600

noncomputable def caromlaw43_example  : Option Bool :=
  Rx.Bind
  (input_Apply
  { Settings := { TimeStep := (1024 : Int), Gravity := { X := (0 : Int), Y := (0 : Int) : Vec }, Iterations := (1 : Int), SleepSteps := (0 : Int) : Settings }, Bodies := [{ ID := (1 : Int), Kind := (1 : Int), Transform := { Position := { X := (0 : Int), Y := (0 : Int) : Vec }, Angle := (0 : Int) : Transform }, Velocity := { X := (0 : Int), Y := (0 : Int) : Vec }, AngularVelocity := (0 : Int), Force := { X := (0 : Int), Y := (0 : Int) : Vec }, Torque := (0 : Int), LinearDamping := (0 : Int), AngularDamping := (0 : Int), GravityScale := (0 : Int), Bullet := false, FixedRotation := false, NoSleep := false, Asleep := false, IdleSteps := (0 : Int), Fixtures := [] : Body }, { ID := (2 : Int), Kind := (3 : Int), Transform := { Position := { X := (0 : Int), Y := (0 : Int) : Vec }, Angle := (0 : Int) : Transform }, Velocity := { X := (0 : Int), Y := (0 : Int) : Vec }, AngularVelocity := (0 : Int), Force := { X := (0 : Int), Y := (0 : Int) : Vec }, Torque := (0 : Int), LinearDamping := (0 : Int), AngularDamping := (0 : Int), GravityScale := (0 : Int), Bullet := false, FixedRotation := false, NoSleep := false, Asleep := true, IdleSteps := (0 : Int), Fixtures := [] : Body }], Joints := [], Contacts := [], Overlaps := [], NextID := (3 : Int), Frame := (0 : Int) : World_ }
  { Kind := (5 : Int), ID := (1 : Int), Vec := { X := (0 : Int), Y := (0 : Int) : Vec }, Value := (0 : Int), Body := { ID := (0 : Int), Kind := (0 : Int), Transform := { Position := { X := (0 : Int), Y := (0 : Int) : Vec }, Angle := (0 : Int) : Transform }, Velocity := { X := (0 : Int), Y := (0 : Int) : Vec }, AngularVelocity := (0 : Int), Force := { X := (0 : Int), Y := (0 : Int) : Vec }, Torque := (0 : Int), LinearDamping := (0 : Int), AngularDamping := (0 : Int), GravityScale := (0 : Int), Bullet := false, FixedRotation := false, NoSleep := false, Asleep := false, IdleSteps := (0 : Int), Fixtures := [] : Body }, Joint := { ID := (0 : Int), Kind := (0 : Int), BodyA := (0 : Int), BodyB := (0 : Int), AnchorA := { X := (0 : Int), Y := (0 : Int) : Vec }, AnchorB := { X := (0 : Int), Y := (0 : Int) : Vec }, Axis := { X := (0 : Int), Y := (0 : Int) : Vec }, ReferenceAngle := (0 : Int), EnableLimit := false, Lower := (0 : Int), Upper := (0 : Int), EnableMotor := false, MotorSpeed := (0 : Int), MaxForce := (0 : Int), Softness := (0 : Int), BreakForce := (0 : Int), CollideConnected := false, Impulses := ((0 : Int), (0 : Int), (0 : Int), (0 : Int)) : Joint } : Input })
  fun (r1601 : World_ × Int × Int) =>
  Rx.Bind
  (input_Apply
  { Settings := { TimeStep := (1024 : Int), Gravity := { X := (0 : Int), Y := (0 : Int) : Vec }, Iterations := (1 : Int), SleepSteps := (0 : Int) : Settings }, Bodies := [{ ID := (1 : Int), Kind := (1 : Int), Transform := { Position := { X := (0 : Int), Y := (0 : Int) : Vec }, Angle := (0 : Int) : Transform }, Velocity := { X := (0 : Int), Y := (0 : Int) : Vec }, AngularVelocity := (0 : Int), Force := { X := (0 : Int), Y := (0 : Int) : Vec }, Torque := (0 : Int), LinearDamping := (0 : Int), AngularDamping := (0 : Int), GravityScale := (0 : Int), Bullet := false, FixedRotation := false, NoSleep := false, Asleep := false, IdleSteps := (0 : Int), Fixtures := [] : Body }, { ID := (2 : Int), Kind := (3 : Int), Transform := { Position := { X := (0 : Int), Y := (0 : Int) : Vec }, Angle := (0 : Int) : Transform }, Velocity := { X := (0 : Int), Y := (0 : Int) : Vec }, AngularVelocity := (0 : Int), Force := { X := (0 : Int), Y := (0 : Int) : Vec }, Torque := (0 : Int), LinearDamping := (0 : Int), AngularDamping := (0 : Int), GravityScale := (0 : Int), Bullet := false, FixedRotation := false, NoSleep := false, Asleep := true, IdleSteps := (0 : Int), Fixtures := [] : Body }], Joints := [], Contacts := [], Overlaps := [], NextID := (3 : Int), Frame := (0 : Int) : World_ }
  { Kind := (5 : Int), ID := (2 : Int), Vec := { X := (5 : Int), Y := (0 : Int) : Vec }, Value := (7 : Int), Body := { ID := (0 : Int), Kind := (0 : Int), Transform := { Position := { X := (0 : Int), Y := (0 : Int) : Vec }, Angle := (0 : Int) : Transform }, Velocity := { X := (0 : Int), Y := (0 : Int) : Vec }, AngularVelocity := (0 : Int), Force := { X := (0 : Int), Y := (0 : Int) : Vec }, Torque := (0 : Int), LinearDamping := (0 : Int), AngularDamping := (0 : Int), GravityScale := (0 : Int), Bullet := false, FixedRotation := false, NoSleep := false, Asleep := false, IdleSteps := (0 : Int), Fixtures := [] : Body }, Joint := { ID := (0 : Int), Kind := (0 : Int), BodyA := (0 : Int), BodyB := (0 : Int), AnchorA := { X := (0 : Int), Y := (0 : Int) : Vec }, AnchorB := { X := (0 : Int), Y := (0 : Int) : Vec }, Axis := { X := (0 : Int), Y := (0 : Int) : Vec }, ReferenceAngle := (0 : Int), EnableLimit := false, Lower := (0 : Int), Upper := (0 : Int), EnableMotor := false, MotorSpeed := (0 : Int), MaxForce := (0 : Int), Softness := (0 : Int), BreakForce := (0 : Int), CollideConnected := false, Impulses := ((0 : Int), (0 : Int), (0 : Int), (0 : Int)) : Joint } : Input })
  fun (r1602 : World_ × Int × Int) =>
  Rx.Bind
  (input_Apply
  { Settings := { TimeStep := (1024 : Int), Gravity := { X := (0 : Int), Y := (0 : Int) : Vec }, Iterations := (1 : Int), SleepSteps := (0 : Int) : Settings }, Bodies := [{ ID := (1 : Int), Kind := (1 : Int), Transform := { Position := { X := (0 : Int), Y := (0 : Int) : Vec }, Angle := (0 : Int) : Transform }, Velocity := { X := (0 : Int), Y := (0 : Int) : Vec }, AngularVelocity := (0 : Int), Force := { X := (0 : Int), Y := (0 : Int) : Vec }, Torque := (0 : Int), LinearDamping := (0 : Int), AngularDamping := (0 : Int), GravityScale := (0 : Int), Bullet := false, FixedRotation := false, NoSleep := false, Asleep := false, IdleSteps := (0 : Int), Fixtures := [] : Body }, { ID := (2 : Int), Kind := (3 : Int), Transform := { Position := { X := (0 : Int), Y := (0 : Int) : Vec }, Angle := (0 : Int) : Transform }, Velocity := { X := (0 : Int), Y := (0 : Int) : Vec }, AngularVelocity := (0 : Int), Force := { X := (0 : Int), Y := (0 : Int) : Vec }, Torque := (0 : Int), LinearDamping := (0 : Int), AngularDamping := (0 : Int), GravityScale := (0 : Int), Bullet := false, FixedRotation := false, NoSleep := false, Asleep := true, IdleSteps := (0 : Int), Fixtures := [] : Body }], Joints := [], Contacts := [], Overlaps := [], NextID := (3 : Int), Frame := (0 : Int) : World_ }
  { Kind := (6 : Int), ID := (3 : Int), Vec := { X := (0 : Int), Y := (0 : Int) : Vec }, Value := (0 : Int), Body := { ID := (0 : Int), Kind := (0 : Int), Transform := { Position := { X := (0 : Int), Y := (0 : Int) : Vec }, Angle := (0 : Int) : Transform }, Velocity := { X := (0 : Int), Y := (0 : Int) : Vec }, AngularVelocity := (0 : Int), Force := { X := (0 : Int), Y := (0 : Int) : Vec }, Torque := (0 : Int), LinearDamping := (0 : Int), AngularDamping := (0 : Int), GravityScale := (0 : Int), Bullet := false, FixedRotation := false, NoSleep := false, Asleep := false, IdleSteps := (0 : Int), Fixtures := [] : Body }, Joint := { ID := (0 : Int), Kind := (0 : Int), BodyA := (0 : Int), BodyB := (0 : Int), AnchorA := { X := (0 : Int), Y := (0 : Int) : Vec }, AnchorB := { X := (0 : Int), Y := (0 : Int) : Vec }, Axis := { X := (0 : Int), Y := (0 : Int) : Vec }, ReferenceAngle := (0 : Int), EnableLimit := false, Lower := (0 : Int), Upper := (0 : Int), EnableMotor := false, MotorSpeed := (0 : Int), MaxForce := (0 : Int), Softness := (0 : Int), BreakForce := (0 : Int), CollideConnected := false, Impulses := ((0 : Int), (0 : Int), (0 : Int), (0 : Int)) : Joint } : Input })
  fun (r1603 : World_ × Int × Int) =>
  Let (r1601.snd.snd == (10 : Int)) fun (x1604 : Bool) =>
  Let (r1602.snd.snd == (0 : Int)) fun (x1605 : Bool) =>
  Let (bif x1604 then x1605 else false) fun (x1606 : Bool) =>
  Let (r1602.snd.fst == (0 : Int)) fun (x1607 : Bool) =>
  Let (bif x1606 then x1607 else false) fun (x1608 : Bool) =>
  Let (↑r1602.fst.Bodies.length : Int) fun (x1609 : Int) =>
  Let (x1609 == (2 : Int)) fun (x1610 : Bool) =>
  Let (bif x1608 then x1610 else false) fun (x1611 : Bool) =>
  Chk ((x1611 == true) = true → (0 : Int) ≤ (1 : Int) ∧ (1 : Int) < (↑r1602.fst.Bodies.length : Int))
  (Let (ix r1602.fst.Bodies (1 : Int)) fun (x1612 : Body) =>
  Let (x1612.Velocity.X == (5 : Int)) fun (x1613 : Bool) =>
  Let (bif x1611 then x1613 else false) fun (x1614 : Bool) =>
  Chk ((x1614 == true) = true → (0 : Int) ≤ (1 : Int) ∧ (1 : Int) < (↑r1602.fst.Bodies.length : Int))
  (Let (ix r1602.fst.Bodies (1 : Int)) fun (x1615 : Body) =>
  Let (x1615.AngularVelocity == (7 : Int)) fun (x1616 : Bool) =>
  Let (bif x1614 then x1616 else false) fun (x1617 : Bool) =>
  Chk ((x1617 == true) = true → (0 : Int) ≤ (1 : Int) ∧ (1 : Int) < (↑r1602.fst.Bodies.length : Int))
  (Let (ix r1602.fst.Bodies (1 : Int)) fun (x1618 : Body) =>
  Let (!x1618.Asleep) fun (x1619 : Bool) =>
  Let (bif x1617 then x1619 else false) fun (x1620 : Bool) =>
  Let (r1603.snd.snd == (8 : Int)) fun (x1621 : Bool) =>
  Let (bif x1620 then x1621 else false) fun (x1622 : Bool) =>
  Rx.Bind
  (if (x1622 == true) = true then
  input_Validate
  { Kind := (6 : Int), ID := (1 : Int), Vec := { X := (0 : Int), Y := (0 : Int) : Vec }, Value := (1 : Int), Body := { ID := (0 : Int), Kind := (0 : Int), Transform := { Position := { X := (0 : Int), Y := (0 : Int) : Vec }, Angle := (0 : Int) : Transform }, Velocity := { X := (0 : Int), Y := (0 : Int) : Vec }, AngularVelocity := (0 : Int), Force := { X := (0 : Int), Y := (0 : Int) : Vec }, Torque := (0 : Int), LinearDamping := (0 : Int), AngularDamping := (0 : Int), GravityScale := (0 : Int), Bullet := false, FixedRotation := false, NoSleep := false, Asleep := false, IdleSteps := (0 : Int), Fixtures := [] : Body }, Joint := { ID := (0 : Int), Kind := (0 : Int), BodyA := (0 : Int), BodyB := (0 : Int), AnchorA := { X := (0 : Int), Y := (0 : Int) : Vec }, AnchorB := { X := (0 : Int), Y := (0 : Int) : Vec }, Axis := { X := (0 : Int), Y := (0 : Int) : Vec }, ReferenceAngle := (0 : Int), EnableLimit := false, Lower := (0 : Int), Upper := (0 : Int), EnableMotor := false, MotorSpeed := (0 : Int), MaxForce := (0 : Int), Softness := (0 : Int), BreakForce := (0 : Int), CollideConnected := false, Impulses := ((0 : Int), (0 : Int), (0 : Int), (0 : Int)) : Joint } : Input }
  else some default)
  fun (r1623 : Int) =>
  Let (r1623 == (3 : Int)) fun (x1624 : Bool) => Let (bif x1622 then x1624 else false) fun (x1625 : Bool) => some x1625)))

noncomputable def caromref43_UsedFields (k0 : Int) : Option (Bool × Bool × Bool) :=
  Join
  (fun (v1626 : Bool) =>
  if v1626 = true then some (true, true, false)
  else
  Join
  (fun (v1627 : Bool) =>
  if v1627 = true then some (true, false, true)
  else
  Join
  (fun (v1628 : Bool) =>
  if v1628 = true then some (true, true, true)
  else
  Join (fun (v1629 : Bool) => if v1629 = true then some (true, false, false) else some (false, false, false))
  fun (j1630 : Bool → Option (Bool × Bool × Bool)) =>
  Let (k0 == (6 : Int)) fun (x1631 : Bool) =>
  if x1631 = true then j1630 x1631
  else
  Let (k0 == (10 : Int)) fun (x1632 : Bool) =>
  if x1632 = true then j1630 x1632 else Let (k0 == (12 : Int)) fun (x1633 : Bool) => j1630 x1633)
  fun (j1634 : Bool → Option (Bool × Bool × Bool)) =>
  Let (k0 == (4 : Int)) fun (x1635 : Bool) =>
  if x1635 = true then j1634 x1635 else Let (k0 == (5 : Int)) fun (x1636 : Bool) => j1634 x1636)
  fun (j1637 : Bool → Option (Bool × Bool × Bool)) =>
  Let (k0 == (3 : Int)) fun (x1638 : Bool) =>
  if x1638 = true then j1637 x1638 else Let (k0 == (8 : Int)) fun (x1639 : Bool) => j1637 x1639)
  fun (j1640 : Bool → Option (Bool × Bool × Bool)) =>
  Let (k0 == (1 : Int)) fun (x1641 : Bool) =>
  if x1641 = true then j1640 x1641
  else
  Let (k0 == (2 : Int)) fun (x1642 : Bool) =>
  if x1642 = true then j1640 x1642 else Let (k0 == (7 : Int)) fun (x1643 : Bool) => j1640 x1643

noncomputable def caromref43_unsaturated (n0 : Int) : Option Bool :=
  Let (decide (n0 < (-536870911 : Int))) fun (x1644 : Bool) =>
  Let (decide (n0 > (536870911 : Int))) fun (x1645 : Bool) =>
  Let (bif x1644 then true else x1645) fun (x1646 : Bool) => some x1646

noncomputable def caromref12_EqualVecs (a0 : (List Vec)) (b1 : (List Vec)) : Option Bool :=
  Let (↑a0.length : Int) fun (x1647 : Int) =>
  Let (↑b1.length : Int) fun (x1648 : Int) =>
  Let (x1647 != x1648) fun (x1649 : Bool) =>
  if x1649 = true then some false
  else
  LOOP
  (fun (rec1650 : Int → Option Bool) (s1651 : Int) =>
  Let (↑a0.length : Int) fun (x1652 : Int) =>
  Let (decide (s1651 < x1652)) fun (x1653 : Bool) =>
  if x1653 = true then
  Chk ((0 : Int) ≤ s1651 ∧ s1651 < (↑a0.length : Int))
  (Let (ix a0 s1651) fun (x1654 : Vec) =>
  Chk ((0 : Int) ≤ s1651 ∧ s1651 < (↑b1.length : Int))
  (Let (ix b1 s1651) fun (x1655 : Vec) =>
  Let (!(decide (x1654.X = x1655.X) && decide (x1654.Y = x1655.Y))) fun (x1656 : Bool) =>
  if x1656 = true then some false else Let (IntKind.i64.wrap (s1651 + (1 : Int))) fun (x1657 : Int) => rec1650 x1657))
  else some true)
  fuel (0 : Int)

noncomputable def caromref12_Equal (a0 : Shape) (b1 : Shape) : Option Bool :=
  Let (a0.Kind == b1.Kind) fun (x1658 : Bool) =>
  Let (a0.Radius == b1.Radius) fun (x1659 : Bool) =>
  Let (bif x1658 then x1659 else false) fun (x1660 : Bool) =>
  Rx.Bind (if (x1660 == true) = true then caromref12_EqualVecs a0.Vertices b1.Vertices else some default)
  fun (r1661 : Bool) => Let (bif x1660 then r1661 else false) fun (x1662 : Bool) => some x1662

noncomputable def caromref23_EqualFixture (a0 : Fixture) (b1 : Fixture) : Option Bool :=
  Rx.Bind (caromref12_Equal a0.Shape b1.Shape) fun (r1663 : Bool) =>
  Let (a0.Density == b1.Density) fun (x1664 : Bool) =>
  Let (bif r1663 then x1664 else false) fun (x1665 : Bool) =>
  Let (a0.Friction == b1.Friction) fun (x1666 : Bool) =>
  Let (bif x1665 then x1666 else false) fun (x1667 : Bool) =>
  Let (a0.Restitution == b1.Restitution) fun (x1668 : Bool) =>
  Let (bif x1667 then x1668 else false) fun (x1669 : Bool) =>
  Let (a0.Sensor == b1.Sensor) fun (x1670 : Bool) =>
  Let (bif x1669 then x1670 else false) fun (x1671 : Bool) =>
  Let (a0.Category == b1.Category) fun (x1672 : Bool) =>
  Let (bif x1671 then x1672 else false) fun (x1673 : Bool) =>
  Let (a0.Mask == b1.Mask) fun (x1674 : Bool) =>
  Let (bif x1673 then x1674 else false) fun (x1675 : Bool) =>
  Let (a0.Group == b1.Group) fun (x1676 : Bool) => Let (bif x1675 then x1676 else false) fun (x1677 : Bool) => some x1677

noncomputable def caromref23_Equal (a0 : Body) (b1 : Body) : Option Bool :=
  Let (↑a0.Fixtures.length : Int) fun (x1678 : Int) =>
  Let (↑b1.Fixtures.length : Int) fun (x1679 : Int) =>
  Let (x1678 != x1679) fun (x1680 : Bool) =>
  if x1680 = true then some false
  else
  LOOP
  (fun (rec1681 : Int → Option Bool) (s1682 : Int) =>
  Let (↑a0.Fixtures.length : Int) fun (x1683 : Int) =>
  Let (decide (s1682 < x1683)) fun (x1684 : Bool) =>
  Let (↑b1.Fixtures.length : Int) fun (x1685 : Int) =>
  Let (decide (s1682 < x1685)) fun (x1686 : Bool) =>
  Let (bif x1684 then x1686 else false) fun (x1687 : Bool) =>
  if x1687 = true then
  Chk ((0 : Int) ≤ s1682 ∧ s1682 < (↑a0.Fixtures.length : Int))
  (Let (ix a0.Fixtures s1682) fun (x1688 : Fixture) =>
  Chk ((0 : Int) ≤ s1682 ∧ s1682 < (↑b1.Fixtures.length : Int))
  (Let (ix b1.Fixtures s1682) fun (x1689 : Fixture) =>
  Rx.Bind (caromref23_EqualFixture x1688 x1689) fun (r1690 : Bool) =>
  Let (!r1690) fun (x1691 : Bool) =>
  if x1691 = true then some false else Let (IntKind.i64.wrap (s1682 + (1 : Int))) fun (x1692 : Int) => rec1681 x1692))
  else
  Let (a0.ID != b1.ID) fun (x1693 : Bool) =>
  Let (a0.Kind != b1.Kind) fun (x1694 : Bool) =>
  Let (bif x1693 then true else x1694) fun (x1695 : Bool) =>
  Let
  (!(decide (a0.Transform.Position.X = b1.Transform.Position.X) &&
  decide (a0.Transform.Position.Y = b1.Transform.Position.Y) &&
  decide (a0.Transform.Angle = b1.Transform.Angle)))
  fun (x1696 : Bool) =>
  Let (bif x1695 then true else x1696) fun (x1697 : Bool) =>
  Let (!(decide (a0.Velocity.X = b1.Velocity.X) && decide (a0.Velocity.Y = b1.Velocity.Y))) fun (x1698 : Bool) =>
  Let (bif x1697 then true else x1698) fun (x1699 : Bool) =>
  Let (a0.AngularVelocity != b1.AngularVelocity) fun (x1700 : Bool) =>
  Let (bif x1699 then true else x1700) fun (x1701 : Bool) =>
  Let (!(decide (a0.Force.X = b1.Force.X) && decide (a0.Force.Y = b1.Force.Y))) fun (x1702 : Bool) =>
  Let (bif x1701 then true else x1702) fun (x1703 : Bool) =>
  Let (a0.Torque != b1.Torque) fun (x1704 : Bool) =>
  Let (bif x1703 then true else x1704) fun (x1705 : Bool) =>
  if x1705 = true then some false
  else
  Let (a0.LinearDamping == b1.LinearDamping) fun (x1706 : Bool) =>
  Let (a0.AngularDamping == b1.AngularDamping) fun (x1707 : Bool) =>
  Let (bif x1706 then x1707 else false) fun (x1708 : Bool) =>
  Let (a0.GravityScale == b1.GravityScale) fun (x1709 : Bool) =>
  Let (bif x1708 then x1709 else false) fun (x1710 : Bool) =>
  Let (a0.Bullet == b1.Bullet) fun (x1711 : Bool) =>
  Let (bif x1710 then x1711 else false) fun (x1712 : Bool) =>
  Let (a0.FixedRotation == b1.FixedRotation) fun (x1713 : Bool) =>
  Let (bif x1712 then x1713 else false) fun (x1714 : Bool) =>
  Let (a0.NoSleep == b1.NoSleep) fun (x1715 : Bool) =>
  Let (bif x1714 then x1715 else false) fun (x1716 : Bool) =>
  Let (a0.Asleep == b1.Asleep) fun (x1717 : Bool) =>
  Let (bif x1716 then x1717 else false) fun (x1718 : Bool) =>
  Let (a0.IdleSteps == b1.IdleSteps) fun (x1719 : Bool) =>
  Let (bif x1718 then x1719 else false) fun (x1720 : Bool) => some x1720)
  fuel (0 : Int)

noncomputable def caromref43_Validate (x0 : Input) : Option Int :=
  Let (decide (x0.Kind < (1 : Int))) fun (x1721 : Bool) =>
  Let (decide (x0.Kind > (12 : Int))) fun (x1722 : Bool) =>
  Let (bif x1721 then true else x1722) fun (x1723 : Bool) =>
  if x1723 = true then some (10 : Int)
  else
  Rx.Bind (caromref43_UsedFields x0.Kind) fun (r1724 : Bool × Bool × Bool) =>
  Let (decide (x0.ID < (1 : Int))) fun (x1725 : Bool) =>
  Let (decide (x0.ID > (1099511627776 : Int))) fun (x1726 : Bool) =>
  Let (bif x1725 then true else x1726) fun (x1727 : Bool) =>
  Let (bif r1724.fst then x1727 else false) fun (x1728 : Bool) =>
  Rx.Bind (if (x1728 == false && r1724.snd.fst == true) = true then caromref43_unsaturated x0.Vec.X else some default)
  fun (r1729 : Bool) =>
  Rx.Bind
  (if (x1728 == false && r1724.snd.fst == true && r1729 == false) = true then caromref43_unsaturated x0.Vec.Y
  else some default)
  fun (r1730 : Bool) =>
  Let (bif r1729 then true else r1730) fun (x1731 : Bool) =>
  Let (bif r1724.snd.fst then x1731 else false) fun (x1732 : Bool) =>
  Let (bif x1728 then true else x1732) fun (x1733 : Bool) =>
  Rx.Bind (if (x1733 == false && r1724.snd.snd == true) = true then caromref43_unsaturated x0.Value else some default)
  fun (r1734 : Bool) =>
  Let (bif r1724.snd.snd then r1734 else false) fun (x1735 : Bool) =>
  Let (bif x1733 then true else x1735) fun (x1736 : Bool) =>
  if x1736 = true then some (6 : Int)
  else
  Let (!r1724.fst) fun (x1737 : Bool) =>
  Let (x0.ID != (0 : Int)) fun (x1738 : Bool) =>
  Let (bif x1737 then x1738 else false) fun (x1739 : Bool) =>
  Let (!r1724.snd.fst) fun (x1740 : Bool) =>
  Let (!(decide (x0.Vec.X = (0 : Int)) && decide (x0.Vec.Y = (0 : Int)))) fun (x1741 : Bool) =>
  Let (bif x1740 then x1741 else false) fun (x1742 : Bool) =>
  Let (bif x1739 then true else x1742) fun (x1743 : Bool) =>
  Let (!r1724.snd.snd) fun (x1744 : Bool) =>
  Let (x0.Value != (0 : Int)) fun (x1745 : Bool) =>
  Let (bif x1744 then x1745 else false) fun (x1746 : Bool) =>
  Let (bif x1743 then true else x1746) fun (x1747 : Bool) =>
  Let (x0.Kind != (9 : Int)) fun (x1748 : Bool) =>
  Rx.Bind
  (if (x1747 == false && x1748 == true) = true then
  caromref23_Equal x0.Body
  { ID := (0 : Int), Kind := (0 : Int), Transform := { Position := { X := (0 : Int), Y := (0 : Int) : Vec }, Angle := (0 : Int) : Transform }, Velocity := { X := (0 : Int), Y := (0 : Int) : Vec }, AngularVelocity := (0 : Int), Force := { X := (0 : Int), Y := (0 : Int) : Vec }, Torque := (0 : Int), LinearDamping := (0 : Int), AngularDamping := (0 : Int), GravityScale := (0 : Int), Bullet := false, FixedRotation := false, NoSleep := false, Asleep := false, IdleSteps := (0 : Int), Fixtures := [] : Body }
  else some default)
  fun (r1749 : Bool) =>
  Let (!r1749) fun (x1750 : Bool) =>
  Let (bif x1748 then x1750 else false) fun (x1751 : Bool) =>
  Let (bif x1747 then true else x1751) fun (x1752 : Bool) =>
  Let (x0.Kind != (11 : Int)) fun (x1753 : Bool) =>
  Let
  (!(decide (x0.Joint.ID = (0 : Int)) &&
  (decide (x0.Joint.Kind = (0 : Int)) &&
  (decide (x0.Joint.BodyA = (0 : Int)) &&
  (decide (x0.Joint.BodyB = (0 : Int)) &&
  (decide (x0.Joint.AnchorA.X = (0 : Int)) && decide (x0.Joint.AnchorA.Y = (0 : Int)) &&
  (decide (x0.Joint.AnchorB.X = (0 : Int)) && decide (x0.Joint.AnchorB.Y = (0 : Int)) &&
  (decide (x0.Joint.Axis.X = (0 : Int)) && decide (x0.Joint.Axis.Y = (0 : Int)) &&
  (decide (x0.Joint.ReferenceAngle = (0 : Int)) &&
  (decide (x0.Joint.EnableLimit = false) &&
  (decide (x0.Joint.Lower = (0 : Int)) &&
  (decide (x0.Joint.Upper = (0 : Int)) &&
  (decide (x0.Joint.EnableMotor = false) &&
  (decide (x0.Joint.MotorSpeed = (0 : Int)) &&
  (decide (x0.Joint.MaxForce = (0 : Int)) &&
  (decide (x0.Joint.Softness = (0 : Int)) &&
  (decide (x0.Joint.BreakForce = (0 : Int)) &&
  (decide (x0.Joint.CollideConnected = false) &&
  (decide (x0.Joint.Impulses.fst = (0 : Int)) &&
  (decide (x0.Joint.Impulses.snd.fst = (0 : Int)) &&
  (decide (x0.Joint.Impulses.snd.snd.fst = (0 : Int)) &&
  decide (x0.Joint.Impulses.snd.snd.snd = (0 : Int)))))))))))))))))))))))
  fun (x1754 : Bool) =>
  Let (bif x1753 then x1754 else false) fun (x1755 : Bool) =>
  Let (bif x1752 then true else x1755) fun (x1756 : Bool) => if x1756 = true then some (3 : Int) else some (0 : Int)

noncomputable def caromlaw43_InputValidation (x0 : Input) (k1 : Int) : Option Bool :=
  Rx.Bind (caromlaw43_few [x0]) fun (r1757 : Bool) =>
  Let (!r1757) fun (x1758 : Bool) =>
  if x1758 = true then Rx.Bind caromlaw43_example fun (r1759 : Bool) => some r1759
  else
  Rx.Bind (input_UsedFields k1) fun (r1760 : Bool × Bool × Bool) =>
  Rx.Bind (caromref43_UsedFields k1) fun (r1761 : Bool × Bool × Bool) =>
  Rx.Bind (input_Validate x0) fun (r1762 : Int) =>
  Rx.Bind (caromref43_Validate x0) fun (r1763 : Int) =>
  Let (r1762 == r1763) fun (x1764 : Bool) =>
  Let (r1760.fst == r1761.fst) fun (x1765 : Bool) =>
  Let (bif x1764 then x1765 else false) fun (x1766 : Bool) =>
  Let (r1760.snd.fst == r1761.snd.fst) fun (x1767 : Bool) =>
  Let (bif x1766 then x1767 else false) fun (x1768 : Bool) =>
  Let (r1760.snd.snd == r1761.snd.snd) fun (x1769 : Bool) =>
  Let (bif x1768 then x1769 else false) fun (x1770 : Bool) =>
  Rx.Bind (if (x1770 == true) = true then caromlaw43_example else some default) fun (r1771 : Bool) =>
  Let (bif x1770 then r1771 else false) fun (x1772 : Bool) => some x1772

noncomputable def caromref25_Few (w0 : World_) : Option Bool :=
  Let (↑w0.Joints.length : Int) fun (x1773 : Int) =>
  Let (decide (x1773 > (40 : Int))) fun (x1774 : Bool) =>
  Let (↑w0.Contacts.length : Int) fun (x1775 : Int) =>
  Let (decide (x1775 > (80 : Int))) fun (x1776 : Bool) =>
  Let (bif x1774 then true else x1776) fun (x1777 : Bool) =>
  Let (↑w0.Overlaps.length : Int) fun (x1778 : Int) =>
  Let (decide (x1778 > (80 : Int))) fun (x1779 : Bool) =>
  Let (bif x1777 then true else x1779) fun (x1780 : Bool) =>
  Rx.Bind (if (x1780 == false) = true then caromref22_Few w0.Bodies (40 : Int) else some default) fun (r1781 : Bool) =>
  Let (!r1781) fun (x1782 : Bool) =>
  Let (bif x1780 then true else x1782) fun (x1783 : Bool) =>
  if x1783 = true then some false
  else
  LOOP
  (fun (rec1784 : Int → Option Bool) (s1785 : Int) =>
  Let (↑w0.Contacts.length : Int) fun (x1786 : Int) =>
  Let (decide (s1785 < x1786)) fun (x1787 : Bool) =>
  if x1787 = true then
  Chk ((0 : Int) ≤ s1785 ∧ s1785 < (↑w0.Contacts.length : Int))
  (Let (ix w0.Contacts s1785) fun (x1788 : Contact) =>
  Let (↑x1788.Manifold.Points.length : Int) fun (x1789 : Int) =>
  Let (decide (x1789 > (8 : Int))) fun (x1790 : Bool) =>
  if x1790 = true then some false else Let (IntKind.i64.wrap (s1785 + (1 : Int))) fun (x1791 : Int) => rec1784 x1791)
  else some true)
  fuel (0 : Int)

noncomputable def caromref25_in (n0 : Int) (low1 : Int) (high2 : Int) : Option Bool :=
  Let (decide (n0 ≥ low1)) fun (x1792 : Bool) =>
  Let (decide (n0 ≤ high2)) fun (x1793 : Bool) => Let (bif x1792 then x1793 else false) fun (x1794 : Bool) => some x1794

noncomputable def caromref25_ValidateSettings (r0 : Settings) : Option Int :=
  Rx.Bind (caromref25_in r0.TimeStep (64 : Int) (8192 : Int)) fun (r1795 : Bool) =>
  Let (!r1795) fun (x1796 : Bool) =>
  Rx.Bind
  (if (x1796 == false) = true then caromref25_in r0.Gravity.X (-16777216 : Int) (16777216 : Int) else some default)
  fun (r1797 : Bool) =>
  Let (!r1797) fun (x1798 : Bool) =>
  Let (bif x1796 then true else x1798) fun (x1799 : Bool) =>
  Rx.Bind
  (if (x1799 == false) = true then caromref25_in r0.Gravity.Y (-16777216 : Int) (16777216 : Int) else some default)
  fun (r1800 : Bool) =>
  Let (!r1800) fun (x1801 : Bool) =>
  Let (bif x1799 then true else x1801) fun (x1802 : Bool) =>
  Rx.Bind (if (x1802 == false) = true then caromref25_in r0.Iterations (1 : Int) (32 : Int) else some default)
  fun (r1803 : Bool) =>
  Let (!r1803) fun (x1804 : Bool) =>
  Let (bif x1802 then true else x1804) fun (x1805 : Bool) =>
  Rx.Bind (if (x1805 == false) = true then caromref25_in r0.SleepSteps (0 : Int) (1048576 : Int) else some default)
  fun (r1806 : Bool) =>
  Let (!r1806) fun (x1807 : Bool) =>
  Let (bif x1805 then true else x1807) fun (x1808 : Bool) => if x1808 = true then some (6 : Int) else some (0 : Int)

noncomputable def caromref23_in (x0 : Int) (low1 : Int) (high2 : Int) : Option Bool :=
  Let (decide (x0 ≥ low1)) fun (x1809 : Bool) =>
  Let (decide (x0 ≤ high2)) fun (x1810 : Bool) => Let (bif x1809 then x1810 else false) fun (x1811 : Bool) => some x1811

noncomputable def caromref04_outside (x0 : Int) : Option Bool :=
  Let (decide (x0 < (-268435456 : Int))) fun (x1812 : Bool) =>
  Let (decide (x0 > (268435456 : Int))) fun (x1813 : Bool) =>
  Let (bif x1812 then true else x1813) fun (x1814 : Bool) => some x1814

noncomputable def caromref04_Valid (p0 : Transform) : Option Bool :=
  Rx.Bind (caromref04_outside p0.Position.X) fun (r1815 : Bool) =>
  Let (!r1815) fun (x1816 : Bool) =>
  Rx.Bind (if (x1816 == true) = true then caromref04_outside p0.Position.Y else some default) fun (r1817 : Bool) =>
  Let (!r1817) fun (x1818 : Bool) =>
  Let (bif x1816 then x1818 else false) fun (x1819 : Bool) =>
  Let (decide (p0.Angle ≥ (-205888 : Int))) fun (x1820 : Bool) =>
  Let (bif x1819 then x1820 else false) fun (x1821 : Bool) =>
  Let (decide (p0.Angle < (205888 : Int))) fun (x1822 : Bool) =>
  Let (bif x1821 then x1822 else false) fun (x1823 : Bool) => some x1823

noncomputable def caromref23_inRange (b0 : Body) : Option Bool :=
  Rx.Bind (caromref23_in b0.ID (1 : Int) (1099511627776 : Int)) fun (r1824 : Bool) =>
  Let (!r1824) fun (x1825 : Bool) =>
  Rx.Bind (if (x1825 == false) = true then caromref04_Valid b0.Transform else some default) fun (r1826 : Bool) =>
  Let (!r1826) fun (x1827 : Bool) =>
  Let (bif x1825 then true else x1827) fun (x1828 : Bool) =>
  Rx.Bind
  (if (x1828 == false) = true then caromref23_in b0.Velocity.X (-16777216 : Int) (16777216 : Int) else some default)
  fun (r1829 : Bool) =>
  Let (!r1829) fun (x1830 : Bool) =>
  Let (bif x1828 then true else x1830) fun (x1831 : Bool) =>
  Rx.Bind
  (if (x1831 == false) = true then caromref23_in b0.Velocity.Y (-16777216 : Int) (16777216 : Int) else some default)
  fun (r1832 : Bool) =>
  Let (!r1832) fun (x1833 : Bool) =>
  Let (bif x1831 then true else x1833) fun (x1834 : Bool) =>
  Rx.Bind
  (if (x1834 == false) = true then caromref23_in b0.AngularVelocity (-4194304 : Int) (4194304 : Int) else some default)
  fun (r1835 : Bool) =>
  Let (!r1835) fun (x1836 : Bool) =>
  Let (bif x1834 then true else x1836) fun (x1837 : Bool) =>
  if x1837 = true then some false
  else
  Rx.Bind (caromref23_in b0.Force.X (-536870911 : Int) (536870911 : Int)) fun (r1838 : Bool) =>
  Let (!r1838) fun (x1839 : Bool) =>
  Rx.Bind
  (if (x1839 == false) = true then caromref23_in b0.Force.Y (-536870911 : Int) (536870911 : Int) else some default)
  fun (r1840 : Bool) =>
  Let (!r1840) fun (x1841 : Bool) =>
  Let (bif x1839 then true else x1841) fun (x1842 : Bool) =>
  Rx.Bind (if (x1842 == false) = true then caromref23_in b0.Torque (-536870911 : Int) (536870911 : Int) else some default)
  fun (r1843 : Bool) =>
  Let (!r1843) fun (x1844 : Bool) =>
  Let (bif x1842 then true else x1844) fun (x1845 : Bool) =>
  if x1845 = true then some false
  else
  Rx.Bind (caromref23_in b0.LinearDamping (0 : Int) (65536 : Int)) fun (r1846 : Bool) =>
  Rx.Bind (if (r1846 == true) = true then caromref23_in b0.AngularDamping (0 : Int) (65536 : Int) else some default)
  fun (r1847 : Bool) =>
  Let (bif r1846 then r1847 else false) fun (x1848 : Bool) =>
  Rx.Bind (if (x1848 == true) = true then caromref23_in b0.GravityScale (-262144 : Int) (262144 : Int) else some default)
  fun (r1849 : Bool) =>
  Let (bif x1848 then r1849 else false) fun (x1850 : Bool) =>
  Rx.Bind (if (x1850 == true) = true then caromref23_in b0.IdleSteps (0 : Int) (1048576 : Int) else some default)
  fun (r1851 : Bool) => Let (bif x1850 then r1851 else false) fun (x1852 : Bool) => some x1852

noncomputable def caromref12_countMatches (s0 : Shape) : Option Bool :=
  Let (↑s0.Vertices.length : Int) fun (x1853 : Int) =>
  Let (s0.Kind == (3 : Int)) fun (x1854 : Bool) =>
  if x1854 = true then
  Let (decide (x1853 ≥ (3 : Int))) fun (x1855 : Bool) =>
  Let (decide (x1853 ≤ (8 : Int))) fun (x1856 : Bool) =>
  Let (bif x1855 then x1856 else false) fun (x1857 : Bool) => some x1857
  else Let (x1853 == s0.Kind) fun (x1858 : Bool) => some x1858

noncomputable def caromref12_within (x0 : Int) (m1 : Int) : Option Bool :=
  Let (IntKind.i64.wrap ((0 : Int) - m1)) fun (x1859 : Int) =>
  Let (decide (x0 ≥ x1859)) fun (x1860 : Bool) =>
  Let (decide (x0 ≤ m1)) fun (x1861 : Bool) => Let (bif x1860 then x1861 else false) fun (x1862 : Bool) => some x1862

noncomputable def caromref01_Saturate (x0 : Int) : Option Int :=
  Let (decide (x0 > (536870911 : Int))) fun (x1863 : Bool) =>
  if x1863 = true then some (536870911 : Int)
  else
  Let (decide (x0 < (-536870911 : Int))) fun (x1864 : Bool) => if x1864 = true then some (-536870911 : Int) else some x0

noncomputable def caromref01_Sub (a0 : Int) (b1 : Int) : Option Int :=
  Rx.Bind (caromref01_Saturate a0) fun (r1865 : Int) =>
  Rx.Bind (caromref01_Saturate b1) fun (r1866 : Int) =>
  Let (IntKind.i64.wrap (r1865 - r1866)) fun (x1867 : Int) =>
  Rx.Bind (caromref01_Saturate x1867) fun (r1868 : Int) => some r1868

noncomputable def caromref03_Sub (a0 : Vec) (b1 : Vec) : Option Vec :=
  Rx.Bind (caromref01_Sub a0.X b1.X) fun (r1869 : Int) =>
  Rx.Bind (caromref01_Sub a0.Y b1.Y) fun (r1870 : Int) => some { X := r1869, Y := r1870 : Vec }

noncomputable def caromref03_Saturated (v0 : Vec) : Option Vec :=
  Rx.Bind (caromref01_Saturate v0.X) fun (r1871 : Int) =>
  Rx.Bind (caromref01_Saturate v0.Y) fun (r1872 : Int) => some { X := r1871, Y := r1872 : Vec }

noncomputable def caromref01_outOfRange (n0 : Int) : Option Bool :=
  Let (decide (n0 > (4611686018427387904 : Int))) fun (x1873 : Bool) =>
  Let (decide (n0 < (-4611686018427387904 : Int))) fun (x1874 : Bool) =>
  Let (bif x1873 then true else x1874) fun (x1875 : Bool) => some x1875

noncomputable def caromref01_Isqrt (n0 : Int) : Option Int :=
  Let (decide (n0 < (0 : Int))) fun (x1876 : Bool) =>
  Rx.Bind (if (x1876 == false) = true then caromref01_outOfRange n0 else some default) fun (r1877 : Bool) =>
  Let (bif x1876 then true else r1877) fun (x1878 : Bool) =>
  if x1878 = true then some (0 : Int)
  else
  LOOP
  (fun (rec1879 : Int × Int → Option Int) (s1880 : Int × Int) =>
  Let (decide (s1880.snd > (0 : Int))) fun (x1881 : Bool) =>
  if x1881 = true then
  Join
  (fun (v1882 : Int) => Let (IntKind.i64.wrap (Int.tdiv s1880.snd (2 : Int))) fun (x1883 : Int) => rec1879 (v1882, x1883))
  fun (j1884 : Int → Option Int) =>
  Let (IntKind.i64.wrap (s1880.fst + s1880.snd)) fun (x1885 : Int) =>
  Let (IntKind.i64.wrap (s1880.fst + s1880.snd)) fun (x1886 : Int) =>
  Chk (x1886 ≠ (0 : Int))
  (Let (IntKind.i64.wrap (n0.tdiv x1886)) fun (x1887 : Int) =>
  Let (decide (x1885 ≤ x1887)) fun (x1888 : Bool) =>
  if x1888 = true then Let (IntKind.i64.wrap (s1880.fst + s1880.snd)) fun (x1889 : Int) => j1884 x1889
  else j1884 s1880.fst)
  else some s1880.fst)
  fuel ((0 : Int), (2147483648 : Int))

noncomputable def caromref03_Length (v0 : Vec) : Option Int :=
  Rx.Bind (caromref03_Saturated v0) fun (r1890 : Vec) =>
  Let (IntKind.i64.wrap (r1890.X * r1890.X)) fun (x1891 : Int) =>
  Let (IntKind.i64.wrap (r1890.Y * r1890.Y)) fun (x1892 : Int) =>
  Let (IntKind.i64.wrap (x1891 + x1892)) fun (x1893 : Int) =>
  Rx.Bind (caromref01_Isqrt x1893) fun (r1894 : Int) => some r1894

noncomputable def caromref11_inRange (v0 : Vec) : Option Bool :=
  Let (decide (v0.X ≥ (-1048576 : Int))) fun (x1895 : Bool) =>
  Let (decide (v0.X ≤ (1048576 : Int))) fun (x1896 : Bool) =>
  Let (bif x1895 then x1896 else false) fun (x1897 : Bool) =>
  Let (decide (v0.Y ≥ (-1048576 : Int))) fun (x1898 : Bool) =>
  Let (bif x1897 then x1898 else false) fun (x1899 : Bool) =>
  Let (decide (v0.Y ≤ (1048576 : Int))) fun (x1900 : Bool) =>
  Let (bif x1899 then x1900 else false) fun (x1901 : Bool) => some x1901

noncomputable def caromref03_Orientation (a0 : Vec) (b1 : Vec) (c2 : Vec) : Option Int :=
  Rx.Bind (caromref03_Saturated a0) fun (r1902 : Vec) =>
  Rx.Bind (caromref03_Saturated b1) fun (r1903 : Vec) =>
  Rx.Bind (caromref03_Saturated c2) fun (r1904 : Vec) =>
  Let (IntKind.i64.wrap (r1903.X - r1902.X)) fun (x1905 : Int) =>
  Let (IntKind.i64.wrap (r1904.Y - r1902.Y)) fun (x1906 : Int) =>
  Let (IntKind.i64.wrap (x1905 * x1906)) fun (x1907 : Int) =>
  Let (IntKind.i64.wrap (r1903.Y - r1902.Y)) fun (x1908 : Int) =>
  Let (IntKind.i64.wrap (r1904.X - r1902.X)) fun (x1909 : Int) =>
  Let (IntKind.i64.wrap (x1908 * x1909)) fun (x1910 : Int) =>
  Let (IntKind.i64.wrap (x1907 - x1910)) fun (x1911 : Int) =>
  Let (decide (x1911 > (0 : Int))) fun (x1912 : Bool) =>
  if x1912 = true then some (1 : Int)
  else Let (decide (x1911 < (0 : Int))) fun (x1913 : Bool) => if x1913 = true then some (-1 : Int) else some (0 : Int)

noncomputable def caromref11_IsConvex (vertices0 : (List Vec)) : Option Bool :=
  Let (↑vertices0.length : Int) fun (x1914 : Int) =>
  Let (decide (x1914 < (3 : Int))) fun (x1915 : Bool) =>
  Let (decide (x1914 > (8 : Int))) fun (x1916 : Bool) =>
  Let (bif x1915 then true else x1916) fun (x1917 : Bool) =>
  if x1917 = true then some false
  else
  LOOP
  (fun (rec1918 : Int → Option Bool) (s1919 : Int) =>
  Let (decide (s1919 < x1914)) fun (x1920 : Bool) =>
  if x1920 = true then
  Chk ((0 : Int) ≤ s1919 ∧ s1919 < (↑vertices0.length : Int))
  (Let (ix vertices0 s1919) fun (x1921 : Vec) =>
  Rx.Bind (caromref11_inRange x1921) fun (r1922 : Bool) =>
  Let (!r1922) fun (x1923 : Bool) =>
  if x1923 = true then some false else Let (IntKind.i64.wrap (s1919 + (1 : Int))) fun (x1924 : Int) => rec1918 x1924)
  else
  LOOP
  (fun (rec1925 : Int → Option Bool) (s1926 : Int) =>
  Let (decide (s1926 < x1914)) fun (x1927 : Bool) =>
  if x1927 = true then
  Let (IntKind.i64.wrap (s1926 + (1 : Int))) fun (x1928 : Int) =>
  Chk (x1914 ≠ (0 : Int))
  (Let (x1928.tmod x1914) fun (x1929 : Int) =>
  LOOP
  (fun (rec1930 : Int → Option Bool) (s1931 : Int) =>
  Let (decide (s1931 < x1914)) fun (x1932 : Bool) =>
  if x1932 = true then
  Let (s1931 != s1926) fun (x1933 : Bool) =>
  Let (s1931 != x1929) fun (x1934 : Bool) =>
  Let (bif x1933 then x1934 else false) fun (x1935 : Bool) =>
  Chk ((x1935 == true) = true → (0 : Int) ≤ s1926 ∧ s1926 < (↑vertices0.length : Int))
  (Let (ix vertices0 s1926) fun (x1936 : Vec) =>
  Chk ((x1935 == true) = true → (0 : Int) ≤ x1929 ∧ x1929 < (↑vertices0.length : Int))
  (Let (ix vertices0 x1929) fun (x1937 : Vec) =>
  Chk ((x1935 == true) = true → (0 : Int) ≤ s1931 ∧ s1931 < (↑vertices0.length : Int))
  (Let (ix vertices0 s1931) fun (x1938 : Vec) =>
  Rx.Bind (if (x1935 == true) = true then caromref03_Orientation x1936 x1937 x1938 else some default) fun (r1939 : Int) =>
  Let (r1939 != (1 : Int)) fun (x1940 : Bool) =>
  Let (bif x1935 then x1940 else false) fun (x1941 : Bool) =>
  if x1941 = true then some false else Let (IntKind.i64.wrap (s1931 + (1 : Int))) fun (x1942 : Int) => rec1930 x1942)))
  else Let (IntKind.i64.wrap (s1926 + (1 : Int))) fun (x1943 : Int) => rec1925 x1943)
  fuel (0 : Int))
  else some true)
  fuel (0 : Int))
  fuel (0 : Int)

noncomputable def caromref11_ShortestEdge (vertices0 : (List Vec)) : Option Int :=
  Rx.Bind (caromref11_IsConvex vertices0) fun (r1944 : Bool) =>
  Let (!r1944) fun (x1945 : Bool) =>
  if x1945 = true then some (0 : Int)
  else
  LOOP
  (fun (rec1946 : Int × Int → Option Int) (s1947 : Int × Int) =>
  Let (↑vertices0.length : Int) fun (x1948 : Int) =>
  Let (decide (s1947.snd < x1948)) fun (x1949 : Bool) =>
  if x1949 = true then
  Join (fun (v1950 : Int) => Let (IntKind.i64.wrap (s1947.snd + (1 : Int))) fun (x1951 : Int) => rec1946 (v1950, x1951))
  fun (j1952 : Int → Option Int) =>
  Let (IntKind.i64.wrap (s1947.snd + (1 : Int))) fun (x1953 : Int) =>
  Let (↑vertices0.length : Int) fun (x1954 : Int) =>
  Chk (x1954 ≠ (0 : Int))
  (Let (x1953.tmod x1954) fun (x1955 : Int) =>
  Chk ((0 : Int) ≤ x1955 ∧ x1955 < (↑vertices0.length : Int))
  (Let (ix vertices0 x1955) fun (x1956 : Vec) =>
  Chk ((0 : Int) ≤ s1947.snd ∧ s1947.snd < (↑vertices0.length : Int))
  (Let (ix vertices0 s1947.snd) fun (x1957 : Vec) =>
  Rx.Bind (caromref03_Sub x1956 x1957) fun (r1958 : Vec) =>
  Rx.Bind (caromref03_Length r1958) fun (r1959 : Int) =>
  Let (decide (s1947.fst < (0 : Int))) fun (x1960 : Bool) =>
  Let (decide (r1959 < s1947.fst)) fun (x1961 : Bool) =>
  Let (bif x1960 then true else x1961) fun (x1962 : Bool) => if x1962 = true then j1952 r1959 else j1952 s1947.fst)))
  else some s1947.fst)
  fuel ((-1 : Int), (0 : Int))

noncomputable def caromref01_RoundDiv (n0 : Int) (d1 : Int) : Option Int :=
  Let (decide (d1 < (1 : Int))) fun (x1963 : Bool) =>
  Rx.Bind (if (x1963 == false) = true then caromref01_outOfRange d1 else some default) fun (r1964 : Bool) =>
  Let (bif x1963 then true else r1964) fun (x1965 : Bool) =>
  Rx.Bind (if (x1965 == false) = true then caromref01_outOfRange n0 else some default) fun (r1966 : Bool) =>
  Let (bif x1965 then true else r1966) fun (x1967 : Bool) =>
  if x1967 = true then some (0 : Int)
  else
  Join
  (fun (v1968 : Int) =>
  Chk (d1 ≠ (0 : Int))
  (Let (IntKind.i64.wrap (v1968.tdiv d1)) fun (x1969 : Int) =>
  Let (IntKind.i64.wrap (x1969 * d1)) fun (x1970 : Int) =>
  Let (IntKind.i64.wrap (v1968 - x1970)) fun (x1971 : Int) =>
  Join
  (fun (v1972 : Int) =>
  Let (decide (n0 < (0 : Int))) fun (x1973 : Bool) =>
  if x1973 = true then Let (IntKind.i64.wrap ((0 : Int) - v1972)) fun (x1974 : Int) => some x1974 else some v1972)
  fun (j1975 : Int → Option Int) =>
  Let (IntKind.i64.wrap (d1 - x1971)) fun (x1976 : Int) =>
  Let (decide (x1971 ≥ x1976)) fun (x1977 : Bool) =>
  if x1977 = true then Let (IntKind.i64.wrap (x1969 + (1 : Int))) fun (x1978 : Int) => j1975 x1978 else j1975 x1969))
  fun (j1979 : Int → Option Int) =>
  Let (decide (n0 < (0 : Int))) fun (x1980 : Bool) =>
  if x1980 = true then Let (IntKind.i64.wrap ((0 : Int) - n0)) fun (x1981 : Int) => j1979 x1981 else j1979 n0

noncomputable def caromref11_cross (v0 : (List Vec)) (i1 : Int) : Option Int :=
  Chk ((0 : Int) ≤ i1 ∧ i1 < (↑v0.length : Int))
  (Let (ix v0 i1) fun (x1982 : Vec) =>
  Chk ((0 : Int) ≤ (0 : Int) ∧ (0 : Int) < (↑v0.length : Int))
  (Let (ix v0 (0 : Int)) fun (x1983 : Vec) =>
  Let (IntKind.i64.wrap (x1982.X - x1983.X)) fun (x1984 : Int) =>
  Chk ((0 : Int) ≤ i1 ∧ i1 < (↑v0.length : Int))
  (Let (ix v0 i1) fun (x1985 : Vec) =>
  Chk ((0 : Int) ≤ (0 : Int) ∧ (0 : Int) < (↑v0.length : Int))
  (Let (ix v0 (0 : Int)) fun (x1986 : Vec) =>
  Let (IntKind.i64.wrap (x1985.Y - x1986.Y)) fun (x1987 : Int) =>
  Let (IntKind.i64.wrap (i1 + (1 : Int))) fun (x1988 : Int) =>
  Chk ((0 : Int) ≤ x1988 ∧ x1988 < (↑v0.length : Int))
  (Let (ix v0 x1988) fun (x1989 : Vec) =>
  Chk ((0 : Int) ≤ (0 : Int) ∧ (0 : Int) < (↑v0.length : Int))
  (Let (ix v0 (0 : Int)) fun (x1990 : Vec) =>
  Let (IntKind.i64.wrap (x1989.X - x1990.X)) fun (x1991 : Int) =>
  Let (IntKind.i64.wrap (i1 + (1 : Int))) fun (x1992 : Int) =>
  Chk ((0 : Int) ≤ x1992 ∧ x1992 < (↑v0.length : Int))
  (Let (ix v0 x1992) fun (x1993 : Vec) =>
  Chk ((0 : Int) ≤ (0 : Int) ∧ (0 : Int) < (↑v0.length : Int))
  (Let (ix v0 (0 : Int)) fun (x1994 : Vec) =>
  Let (IntKind.i64.wrap (x1993.Y - x1994.Y)) fun (x1995 : Int) =>
  Let (IntKind.i64.wrap (x1984 * x1995)) fun (x1996 : Int) =>
  Let (IntKind.i64.wrap (x1987 * x1991)) fun (x1997 : Int) =>
  Let (IntKind.i64.wrap (x1996 - x1997)) fun (x1998 : Int) =>
  Rx.Bind (caromref01_RoundDiv x1998 (65536 : Int)) fun (r1999 : Int) => some r1999))))))))

noncomputable def caromref11_Area (vertices0 : (List Vec)) : Option Int :=
  Rx.Bind (caromref11_IsConvex vertices0) fun (r2000 : Bool) =>
  Let (!r2000) fun (x2001 : Bool) =>
  if x2001 = true then some (0 : Int)
  else
  LOOP
  (fun (rec2002 : Int × Int → Option Int) (s2003 : Int × Int) =>
  Let (IntKind.i64.wrap (s2003.snd + (1 : Int))) fun (x2004 : Int) =>
  Let (↑vertices0.length : Int) fun (x2005 : Int) =>
  Let (decide (x2004 < x2005)) fun (x2006 : Bool) =>
  if x2006 = true then
  Rx.Bind (caromref11_cross vertices0 s2003.snd) fun (r2007 : Int) =>
  Let (IntKind.i64.wrap (s2003.fst + r2007)) fun (x2008 : Int) =>
  Let (IntKind.i64.wrap (s2003.snd + (1 : Int))) fun (x2009 : Int) => rec2002 (x2008, x2009)
  else Rx.Bind (caromref01_RoundDiv s2003.fst (2 : Int)) fun (r2010 : Int) => some r2010)
  fuel ((0 : Int), (1 : Int))

noncomputable def caromref12_Validate (s0 : Shape) : Option Int :=
  Let (decide (s0.Kind < (1 : Int))) fun (x2011 : Bool) =>
  Let (decide (s0.Kind > (3 : Int))) fun (x2012 : Bool) =>
  Let (bif x2011 then true else x2012) fun (x2013 : Bool) =>
  if x2013 = true then some (10 : Int)
  else
  Rx.Bind (caromref12_countMatches s0) fun (r2014 : Bool) =>
  Let (!r2014) fun (x2015 : Bool) =>
  if x2015 = true then some (11 : Int)
  else
  LOOP
  (fun (rec2016 : Int → Option Int) (s2017 : Int) =>
  Let (↑s0.Vertices.length : Int) fun (x2018 : Int) =>
  Let (decide (s2017 < x2018)) fun (x2019 : Bool) =>
  if x2019 = true then
  Chk ((0 : Int) ≤ s2017 ∧ s2017 < (↑s0.Vertices.length : Int))
  (Let (ix s0.Vertices s2017) fun (x2020 : Vec) =>
  Rx.Bind (caromref12_within x2020.X (1048576 : Int)) fun (r2021 : Bool) =>
  Let (!r2021) fun (x2022 : Bool) =>
  Chk ((x2022 == false) = true → (0 : Int) ≤ s2017 ∧ s2017 < (↑s0.Vertices.length : Int))
  (Let (ix s0.Vertices s2017) fun (x2023 : Vec) =>
  Rx.Bind (if (x2022 == false) = true then caromref12_within x2023.Y (1048576 : Int) else some default)
  fun (r2024 : Bool) =>
  Let (!r2024) fun (x2025 : Bool) =>
  Let (bif x2022 then true else x2025) fun (x2026 : Bool) =>
  if x2026 = true then some (6 : Int) else Let (IntKind.i64.wrap (s2017 + (1 : Int))) fun (x2027 : Int) => rec2016 x2027))
  else
  Let (s0.Kind == (3 : Int)) fun (x2028 : Bool) =>
  Let (s0.Radius != (0 : Int)) fun (x2029 : Bool) =>
  Let (bif x2028 then x2029 else false) fun (x2030 : Bool) =>
  Let (s0.Kind != (3 : Int)) fun (x2031 : Bool) =>
  Let (decide (s0.Radius < (2048 : Int))) fun (x2032 : Bool) =>
  Let (decide (s0.Radius > (524288 : Int))) fun (x2033 : Bool) =>
  Let (bif x2032 then true else x2033) fun (x2034 : Bool) =>
  Let (bif x2031 then x2034 else false) fun (x2035 : Bool) =>
  Let (bif x2030 then true else x2035) fun (x2036 : Bool) =>
  if x2036 = true then some (6 : Int)
  else
  Let (s0.Kind == (2 : Int)) fun (x2037 : Bool) =>
  Chk ((x2037 == true) = true → (0 : Int) ≤ (1 : Int) ∧ (1 : Int) < (↑s0.Vertices.length : Int))
  (Let (ix s0.Vertices (1 : Int)) fun (x2038 : Vec) =>
  Chk ((x2037 == true) = true → (0 : Int) ≤ (0 : Int) ∧ (0 : Int) < (↑s0.Vertices.length : Int))
  (Let (ix s0.Vertices (0 : Int)) fun (x2039 : Vec) =>
  Rx.Bind (if (x2037 == true) = true then caromref03_Sub x2038 x2039 else some { X := default, Y := default : Vec })
  fun (r2040 : Vec) =>
  Rx.Bind (if (x2037 == true) = true then caromref03_Length r2040 else some default) fun (r2041 : Int) =>
  Let (decide (r2041 < (4096 : Int))) fun (x2042 : Bool) =>
  Let (bif x2037 then x2042 else false) fun (x2043 : Bool) =>
  if x2043 = true then some (12 : Int)
  else
  Let (s0.Kind == (3 : Int)) fun (x2044 : Bool) =>
  Rx.Bind (if (x2044 == true) = true then caromref11_IsConvex s0.Vertices else some default) fun (r2045 : Bool) =>
  Let (!r2045) fun (x2046 : Bool) =>
  Rx.Bind (if (x2044 == true && x2046 == false) = true then caromref11_ShortestEdge s0.Vertices else some default)
  fun (r2047 : Int) =>
  Let (decide (r2047 < (4096 : Int))) fun (x2048 : Bool) =>
  Let (bif x2046 then true else x2048) fun (x2049 : Bool) =>
  Rx.Bind (if (x2044 == true && x2049 == false) = true then caromref11_Area s0.Vertices else some default)
  fun (r2050 : Int) =>
  Let (decide (r2050 < (256 : Int))) fun (x2051 : Bool) =>
  Let (bif x2049 then true else x2051) fun (x2052 : Bool) =>
  Let (bif x2044 then x2052 else false) fun (x2053 : Bool) => if x2053 = true then some (12 : Int) else some (0 : Int))))
  fuel (0 : Int)

noncomputable def caromref23_ValidateFixture (f0 : Fixture) : Option Int :=
  Rx.Bind (caromref12_Validate f0.Shape) fun (r2054 : Int) =>
  Let (r2054 != (0 : Int)) fun (x2055 : Bool) =>
  if x2055 = true then some r2054
  else
  Rx.Bind (caromref23_in f0.Density (0 : Int) (262144 : Int)) fun (r2056 : Bool) =>
  Let (!r2056) fun (x2057 : Bool) =>
  Rx.Bind (if (x2057 == false) = true then caromref23_in f0.Friction (0 : Int) (131072 : Int) else some default)
  fun (r2058 : Bool) =>
  Let (!r2058) fun (x2059 : Bool) =>
  Let (bif x2057 then true else x2059) fun (x2060 : Bool) =>
  Rx.Bind (if (x2060 == false) = true then caromref23_in f0.Restitution (0 : Int) (65536 : Int) else some default)
  fun (r2061 : Bool) =>
  Let (!r2061) fun (x2062 : Bool) =>
  Let (bif x2060 then true else x2062) fun (x2063 : Bool) =>
  Rx.Bind (if (x2063 == false) = true then caromref23_in f0.Category (0 : Int) (65535 : Int) else some default)
  fun (r2064 : Bool) =>
  Let (!r2064) fun (x2065 : Bool) =>
  Let (bif x2063 then true else x2065) fun (x2066 : Bool) =>
  Rx.Bind (if (x2066 == false) = true then caromref23_in f0.Mask (0 : Int) (65535 : Int) else some default)
  fun (r2067 : Bool) =>
  Let (!r2067) fun (x2068 : Bool) =>
  Let (bif x2066 then true else x2068) fun (x2069 : Bool) =>
  Rx.Bind (if (x2069 == false) = true then caromref23_in f0.Group (-32 : Int) (32 : Int) else some default)
  fun (r2070 : Bool) =>
  Let (!r2070) fun (x2071 : Bool) =>
  Let (bif x2069 then true else x2071) fun (x2072 : Bool) => if x2072 = true then some (6 : Int) else some (0 : Int)

noncomputable def caromref23_Validate (b0 : Body) : Option Int :=
  Let (b0.Kind != (1 : Int)) fun (x2073 : Bool) =>
  Let (b0.Kind != (2 : Int)) fun (x2074 : Bool) =>
  Let (bif x2073 then x2074 else false) fun (x2075 : Bool) =>
  Let (b0.Kind != (3 : Int)) fun (x2076 : Bool) =>
  Let (bif x2075 then x2076 else false) fun (x2077 : Bool) =>
  if x2077 = true then some (10 : Int)
  else
  Rx.Bind (caromref23_inRange b0) fun (r2078 : Bool) =>
  Let (!r2078) fun (x2079 : Bool) =>
  if x2079 = true then some (6 : Int)
  else
  Let (↑b0.Fixtures.length : Int) fun (x2080 : Int) =>
  Let (decide (x2080 > (4 : Int))) fun (x2081 : Bool) =>
  if x2081 = true then some (11 : Int)
  else
  LOOP
  (fun (rec2082 : Int → Option Int) (s2083 : Int) =>
  Let (↑b0.Fixtures.length : Int) fun (x2084 : Int) =>
  Let (decide (s2083 < x2084)) fun (x2085 : Bool) =>
  if x2085 = true then
  Chk ((0 : Int) ≤ s2083 ∧ s2083 < (↑b0.Fixtures.length : Int))
  (Let (ix b0.Fixtures s2083) fun (x2086 : Fixture) =>
  Rx.Bind (caromref23_ValidateFixture x2086) fun (r2087 : Int) =>
  Let (r2087 != (0 : Int)) fun (x2088 : Bool) =>
  if x2088 = true then some (13 : Int) else Let (IntKind.i64.wrap (s2083 + (1 : Int))) fun (x2089 : Int) => rec2082 x2089)
  else
  Let (!(decide (b0.Velocity.X = (0 : Int)) && decide (b0.Velocity.Y = (0 : Int)))) fun (x2090 : Bool) =>
  Let (b0.AngularVelocity != (0 : Int)) fun (x2091 : Bool) =>
  Let (bif x2090 then true else x2091) fun (x2092 : Bool) =>
  Let (!(decide (b0.Force.X = (0 : Int)) && decide (b0.Force.Y = (0 : Int)))) fun (x2093 : Bool) =>
  Let (b0.Torque != (0 : Int)) fun (x2094 : Bool) =>
  Let (bif x2093 then true else x2094) fun (x2095 : Bool) =>
  Let (b0.Kind == (1 : Int)) fun (x2096 : Bool) =>
  Let (bif x2092 then true else x2095) fun (x2097 : Bool) =>
  Let (bif x2096 then x2097 else false) fun (x2098 : Bool) =>
  Let (b0.Kind != (3 : Int)) fun (x2099 : Bool) =>
  Let (bif b0.Asleep then true else b0.Bullet) fun (x2100 : Bool) =>
  Let (bif x2099 then x2100 else false) fun (x2101 : Bool) =>
  Let (bif x2098 then true else x2101) fun (x2102 : Bool) =>
  Let (bif b0.Asleep then x2092 else false) fun (x2103 : Bool) =>
  Let (bif x2102 then true else x2103) fun (x2104 : Bool) => if x2104 = true then some (14 : Int) else some (0 : Int))
  fuel (0 : Int)

noncomputable def caromref25_validBodies (w0 : World_) : Option Bool :=
  LOOP
  (fun (rec2105 : Int × Int → Option Bool) (s2106 : Int × Int) =>
  Let (↑w0.Bodies.length : Int) fun (x2107 : Int) =>
  Let (decide (s2106.snd < x2107)) fun (x2108 : Bool) =>
  if x2108 = true then
  Chk ((0 : Int) ≤ s2106.snd ∧ s2106.snd < (↑w0.Bodies.length : Int))
  (Let (ix w0.Bodies s2106.snd) fun (x2109 : Body) =>
  Rx.Bind (caromref23_Validate x2109) fun (r2110 : Int) =>
  Let (r2110 != (0 : Int)) fun (x2111 : Bool) =>
  Let (decide (x2109.ID ≥ w0.NextID)) fun (x2112 : Bool) =>
  Let (bif x2111 then true else x2112) fun (x2113 : Bool) =>
  Let (decide (s2106.snd > (0 : Int))) fun (x2114 : Bool) =>
  Let (decide (x2109.ID ≤ s2106.fst)) fun (x2115 : Bool) =>
  Let (bif x2114 then x2115 else false) fun (x2116 : Bool) =>
  Let (bif x2113 then true else x2116) fun (x2117 : Bool) =>
  if x2117 = true then some false
  else Let (IntKind.i64.wrap (s2106.snd + (1 : Int))) fun (x2118 : Int) => rec2105 (x2109.ID, x2118))
  else some true)
  fuel ((0 : Int), (0 : Int))

noncomputable def caromref24_inRange (x0 : Int) (low1 : Int) (high2 : Int) : Option Bool :=
  Let (decide (x0 ≥ low1)) fun (x2119 : Bool) =>
  Let (decide (x0 ≤ high2)) fun (x2120 : Bool) => Let (bif x2119 then x2120 else false) fun (x2121 : Bool) => some x2121

noncomputable def caromref24_inSquare (v0 : Vec) (m1 : Int) : Option Bool :=
  Let (IntKind.i64.wrap ((0 : Int) - m1)) fun (x2122 : Int) =>
  Rx.Bind (caromref24_inRange v0.X x2122 m1) fun (r2123 : Bool) =>
  Let (IntKind.i64.wrap ((0 : Int) - m1)) fun (x2124 : Int) =>
  Rx.Bind (if (r2123 == true) = true then caromref24_inRange v0.Y x2124 m1 else some default) fun (r2125 : Bool) =>
  Let (bif r2123 then r2125 else false) fun (x2126 : Bool) => some x2126

noncomputable def caromref24_limitsValid (j0 : Joint) : Option Bool :=
  Rx.Bind (caromref24_inRange j0.Lower (-268435456 : Int) (268435456 : Int)) fun (r2127 : Bool) =>
  Let (!r2127) fun (x2128 : Bool) =>
  Rx.Bind
  (if (x2128 == false) = true then caromref24_inRange j0.Upper (-268435456 : Int) (268435456 : Int) else some default)
  fun (r2129 : Bool) =>
  Let (!r2129) fun (x2130 : Bool) =>
  Let (bif x2128 then true else x2130) fun (x2131 : Bool) =>
  Let (decide (j0.Lower > j0.Upper)) fun (x2132 : Bool) =>
  Let (bif x2131 then true else x2132) fun (x2133 : Bool) =>
  if x2133 = true then some false
  else
  Let (j0.Kind == (1 : Int)) fun (x2134 : Bool) =>
  if x2134 = true then Let (decide (j0.Lower ≥ (0 : Int))) fun (x2135 : Bool) => some x2135
  else
  Let (j0.Kind != (2 : Int)) fun (x2136 : Bool) =>
  Let (decide (j0.Lower ≥ (-205888 : Int))) fun (x2137 : Bool) =>
  Let (decide (j0.Upper ≤ (205888 : Int))) fun (x2138 : Bool) =>
  Let (bif x2137 then x2138 else false) fun (x2139 : Bool) =>
  Let (bif x2136 then true else x2139) fun (x2140 : Bool) => some x2140

noncomputable def caromref24_rangesValid (j0 : Joint) : Option Bool :=
  Join
  (fun (v2141 : Int) =>
  LOOP
  (fun (rec2142 : Int → Option Bool) (s2143 : Int) =>
  Let (decide (s2143 < (4 : Int))) fun (x2144 : Bool) =>
  if x2144 = true then
  Chk ((0 : Int) ≤ s2143 ∧ s2143 < (↑(4 : Nat) : Int))
  (Chk
  ((0 : Int) ≤ s2143 ∧
  s2143 < (↑[j0.Impulses.fst, j0.Impulses.snd.fst, j0.Impulses.snd.snd.fst, j0.Impulses.snd.snd.snd].length : Int))
  (Let (ix [j0.Impulses.fst, j0.Impulses.snd.fst, j0.Impulses.snd.snd.fst, j0.Impulses.snd.snd.snd] s2143)
  fun (x2145 : Int) =>
  Rx.Bind (caromref24_inRange x2145 (-536870911 : Int) (536870911 : Int)) fun (r2146 : Bool) =>
  Let (!r2146) fun (x2147 : Bool) =>
  if x2147 = true then some false else Let (IntKind.i64.wrap (s2143 + (1 : Int))) fun (x2148 : Int) => rec2142 x2148))
  else
  Rx.Bind (caromref24_inRange j0.ID (1 : Int) (1099511627776 : Int)) fun (r2149 : Bool) =>
  Let (!r2149) fun (x2150 : Bool) =>
  Rx.Bind (if (x2150 == false) = true then caromref24_inSquare j0.AnchorA v2141 else some default) fun (r2151 : Bool) =>
  Let (!r2151) fun (x2152 : Bool) =>
  Let (bif x2150 then true else x2152) fun (x2153 : Bool) =>
  Rx.Bind (if (x2153 == false) = true then caromref24_inSquare j0.AnchorB (1048576 : Int) else some default)
  fun (r2154 : Bool) =>
  Let (!r2154) fun (x2155 : Bool) =>
  Let (bif x2153 then true else x2155) fun (x2156 : Bool) =>
  Rx.Bind
  (if (x2156 == false) = true then caromref24_inRange j0.ReferenceAngle (-205888 : Int) (205887 : Int) else some default)
  fun (r2157 : Bool) =>
  Let (!r2157) fun (x2158 : Bool) =>
  Let (bif x2156 then true else x2158) fun (x2159 : Bool) =>
  Rx.Bind (if (x2159 == false) = true then caromref24_limitsValid j0 else some default) fun (r2160 : Bool) =>
  Let (!r2160) fun (x2161 : Bool) =>
  Let (bif x2159 then true else x2161) fun (x2162 : Bool) =>
  if x2162 = true then some false
  else
  Rx.Bind (caromref24_inRange j0.MotorSpeed (-16777216 : Int) (16777216 : Int)) fun (r2163 : Bool) =>
  Rx.Bind (if (r2163 == true) = true then caromref24_inRange j0.MaxForce (0 : Int) (536870911 : Int) else some default)
  fun (r2164 : Bool) =>
  Let (bif r2163 then r2164 else false) fun (x2165 : Bool) =>
  Rx.Bind (if (x2165 == true) = true then caromref24_inRange j0.Softness (0 : Int) (536870911 : Int) else some default)
  fun (r2166 : Bool) =>
  Let (bif x2165 then r2166 else false) fun (x2167 : Bool) =>
  Rx.Bind (if (x2167 == true) = true then caromref24_inRange j0.BreakForce (0 : Int) (536870911 : Int) else some default)
  fun (r2168 : Bool) => Let (bif x2167 then r2168 else false) fun (x2169 : Bool) => some x2169)
  fuel (0 : Int))
  fun (j2170 : Int → Option Bool) =>
  Let (j0.Kind == (5 : Int)) fun (x2171 : Bool) => if x2171 = true then j2170 (268435456 : Int) else j2170 (1048576 : Int)

noncomputable def caromref24_Validate (j0 : Joint) : Option Int :=
  Let (decide (j0.Kind < (1 : Int))) fun (x2172 : Bool) =>
  Let (decide (j0.Kind > (5 : Int))) fun (x2173 : Bool) =>
  Let (bif x2172 then true else x2173) fun (x2174 : Bool) =>
  if x2174 = true then some (10 : Int)
  else
  Rx.Bind (caromref24_rangesValid j0) fun (r2175 : Bool) =>
  Let (!r2175) fun (x2176 : Bool) =>
  if x2176 = true then some (6 : Int)
  else
  Rx.Bind (caromref24_inRange j0.BodyB (1 : Int) (1099511627776 : Int)) fun (r2177 : Bool) =>
  Let (!r2177) fun (x2178 : Bool) =>
  Let (j0.Kind == (5 : Int)) fun (x2179 : Bool) =>
  Let (j0.BodyA != (0 : Int)) fun (x2180 : Bool) =>
  Let (bif x2179 then x2180 else false) fun (x2181 : Bool) =>
  Let (bif x2178 then true else x2181) fun (x2182 : Bool) =>
  Let (j0.Kind != (5 : Int)) fun (x2183 : Bool) =>
  Rx.Bind
  (if (x2182 == false && x2183 == true) = true then caromref24_inRange j0.BodyA (1 : Int) (1099511627776 : Int)
  else some default)
  fun (r2184 : Bool) =>
  Let (!r2184) fun (x2185 : Bool) =>
  Let (j0.BodyA == j0.BodyB) fun (x2186 : Bool) =>
  Let (bif x2185 then true else x2186) fun (x2187 : Bool) =>
  Let (bif x2183 then x2187 else false) fun (x2188 : Bool) =>
  Let (bif x2182 then true else x2188) fun (x2189 : Bool) =>
  if x2189 = true then some (14 : Int)
  else
  Let (decide (j0.Axis.X = (0 : Int)) && decide (j0.Axis.Y = (0 : Int))) fun (x2190 : Bool) =>
  Let (j0.Kind == (3 : Int)) fun (x2191 : Bool) =>
  Rx.Bind (if (x2191 == true) = true then caromref03_Length j0.Axis else some default) fun (r2192 : Int) =>
  Rx.Bind (if (x2191 == true) = true then caromref24_inRange r2192 (65520 : Int) (65552 : Int) else some default)
  fun (r2193 : Bool) =>
  Let (!r2193) fun (x2194 : Bool) =>
  Let (bif x2191 then x2194 else false) fun (x2195 : Bool) =>
  Let (j0.Kind != (3 : Int)) fun (x2196 : Bool) =>
  Let (!x2190) fun (x2197 : Bool) =>
  Let (bif x2196 then x2197 else false) fun (x2198 : Bool) =>
  Let (bif x2195 then true else x2198) fun (x2199 : Bool) =>
  if x2199 = true then some (15 : Int)
  else
  Let (j0.Kind == (1 : Int)) fun (x2200 : Bool) =>
  Let (j0.Kind == (4 : Int)) fun (x2201 : Bool) =>
  Let (j0.Kind == (5 : Int)) fun (x2202 : Bool) =>
  Let (bif x2201 then true else x2202) fun (x2203 : Bool) =>
  Let (bif x2200 then true else x2203) fun (x2204 : Bool) =>
  Let (bif x2204 then j0.EnableMotor else false) fun (x2205 : Bool) =>
  Let (bif x2203 then j0.EnableLimit else false) fun (x2206 : Bool) =>
  Let (bif x2205 then true else x2206) fun (x2207 : Bool) =>
  Let (!j0.EnableLimit) fun (x2208 : Bool) =>
  Let (bif x2200 then x2208 else false) fun (x2209 : Bool) =>
  Let (bif x2207 then true else x2209) fun (x2210 : Bool) => if x2210 = true then some (15 : Int) else some (0 : Int)

noncomputable def caromref25_FindBody (w0 : World_) (id1 : Int) : Option Int :=
  LOOP
  (fun (rec2211 : Int → Option Int) (s2212 : Int) =>
  Let (↑w0.Bodies.length : Int) fun (x2213 : Int) =>
  Let (decide (s2212 < x2213)) fun (x2214 : Bool) =>
  if x2214 = true then
  Chk ((0 : Int) ≤ s2212 ∧ s2212 < (↑w0.Bodies.length : Int))
  (Let (ix w0.Bodies s2212) fun (x2215 : Body) =>
  Let (x2215.ID == id1) fun (x2216 : Bool) =>
  if x2216 = true then some s2212 else Let (IntKind.i64.wrap (s2212 + (1 : Int))) fun (x2217 : Int) => rec2211 x2217)
  else some (-1 : Int))
  fuel (0 : Int)

noncomputable def caromref25_connected (w0 : World_) (j1 : Joint) : Option Bool :=
  Let (j1.BodyA == (0 : Int)) fun (x2218 : Bool) =>
  Rx.Bind (if (x2218 == false) = true then caromref25_FindBody w0 j1.BodyA else some default) fun (r2219 : Int) =>
  Let (decide (r2219 ≥ (0 : Int))) fun (x2220 : Bool) =>
  Let (bif x2218 then true else x2220) fun (x2221 : Bool) =>
  Let (j1.BodyB == (0 : Int)) fun (x2222 : Bool) =>
  Rx.Bind (if (x2221 == true && x2222 == false) = true then caromref25_FindBody w0 j1.BodyB else some default)
  fun (r2223 : Int) =>
  Let (decide (r2223 ≥ (0 : Int))) fun (x2224 : Bool) =>
  Let (bif x2222 then true else x2224) fun (x2225 : Bool) =>
  Let (bif x2221 then x2225 else false) fun (x2226 : Bool) => some x2226

noncomputable def caromref25_validJoints (w0 : World_) : Option Bool :=
  LOOP
  (fun (rec2227 : Int × Int → Option Bool) (s2228 : Int × Int) =>
  Let (↑w0.Joints.length : Int) fun (x2229 : Int) =>
  Let (decide (s2228.snd < x2229)) fun (x2230 : Bool) =>
  if x2230 = true then
  Chk ((0 : Int) ≤ s2228.snd ∧ s2228.snd < (↑w0.Joints.length : Int))
  (Let (ix w0.Joints s2228.snd) fun (x2231 : Joint) =>
  Rx.Bind (caromref24_Validate x2231) fun (r2232 : Int) =>
  Let (r2232 != (0 : Int)) fun (x2233 : Bool) =>
  Let (decide (x2231.ID ≥ w0.NextID)) fun (x2234 : Bool) =>
  Let (bif x2233 then true else x2234) fun (x2235 : Bool) =>
  Let (decide (s2228.snd > (0 : Int))) fun (x2236 : Bool) =>
  Let (decide (x2231.ID ≤ s2228.fst)) fun (x2237 : Bool) =>
  Let (bif x2236 then x2237 else false) fun (x2238 : Bool) =>
  Let (bif x2235 then true else x2238) fun (x2239 : Bool) =>
  Rx.Bind (if (x2239 == false) = true then caromref25_connected w0 x2231 else some default) fun (r2240 : Bool) =>
  Let (!r2240) fun (x2241 : Bool) =>
  Let (bif x2239 then true else x2241) fun (x2242 : Bool) =>
  Rx.Bind (if (x2242 == false) = true then caromref25_FindBody w0 x2231.ID else some default) fun (r2243 : Int) =>
  Let (decide (r2243 ≥ (0 : Int))) fun (x2244 : Bool) =>
  Let (bif x2242 then true else x2244) fun (x2245 : Bool) =>
  if x2245 = true then some false
  else Let (IntKind.i64.wrap (s2228.snd + (1 : Int))) fun (x2246 : Int) => rec2227 (x2231.ID, x2246))
  else some true)
  fuel ((0 : Int), (0 : Int))

noncomputable def caromref25_Keys (l0 : (List Contact)) : Option (List PairKey) :=
  LOOP
  (fun (rec2247 : List PairKey × Int → Option (List PairKey)) (s2248 : List PairKey × Int) =>
  Let (↑l0.length : Int) fun (x2249 : Int) =>
  Let (decide (s2248.snd < x2249)) fun (x2250 : Bool) =>
  if x2250 = true then
  Chk ((0 : Int) ≤ s2248.snd ∧ s2248.snd < (↑l0.length : Int))
  (Let (ix l0 s2248.snd) fun (x2251 : Contact) =>
  Chk ((List.length s2248.fst + [x2251.Key].length) * (32 : Nat) ≤ (140737488355328 : Nat))
  (Let (s2248.fst ++ [x2251.Key]) fun (x2252 : List PairKey) =>
  Let (IntKind.i64.wrap (s2248.snd + (1 : Int))) fun (x2253 : Int) => rec2247 (x2252, x2253)))
  else some s2248.fst)
  fuel ([], (0 : Int))

noncomputable def caromref22_Less (a0 : PairKey) (b1 : PairKey) : Option Bool :=
  Let (a0.BodyA != b1.BodyA) fun (x2254 : Bool) =>
  if x2254 = true then Let (decide (a0.BodyA < b1.BodyA)) fun (x2255 : Bool) => some x2255
  else
  Let (a0.FixtureA != b1.FixtureA) fun (x2256 : Bool) =>
  if x2256 = true then Let (decide (a0.FixtureA < b1.FixtureA)) fun (x2257 : Bool) => some x2257
  else
  Let (a0.BodyB != b1.BodyB) fun (x2258 : Bool) =>
  if x2258 = true then Let (decide (a0.BodyB < b1.BodyB)) fun (x2259 : Bool) => some x2259
  else Let (decide (a0.FixtureB < b1.FixtureB)) fun (x2260 : Bool) => some x2260

noncomputable def caromref22_ValidKeys (l0 : (List PairKey)) : Option Bool :=
  LOOP
  (fun (rec2261 : Int → Option Bool) (s2262 : Int) =>
  Let (↑l0.length : Int) fun (x2263 : Int) =>
  Let (decide (s2262 < x2263)) fun (x2264 : Bool) =>
  if x2264 = true then
  Chk ((0 : Int) ≤ s2262 ∧ s2262 < (↑l0.length : Int))
  (Let (ix l0 s2262) fun (x2265 : PairKey) =>
  Let (decide (x2265.BodyA ≥ x2265.BodyB)) fun (x2266 : Bool) =>
  Let (decide (x2265.FixtureA < (0 : Int))) fun (x2267 : Bool) =>
  Let (bif x2266 then true else x2267) fun (x2268 : Bool) =>
  Let (decide (x2265.FixtureA > (3 : Int))) fun (x2269 : Bool) =>
  Let (bif x2268 then true else x2269) fun (x2270 : Bool) =>
  Let (decide (x2265.FixtureB < (0 : Int))) fun (x2271 : Bool) =>
  Let (bif x2270 then true else x2271) fun (x2272 : Bool) =>
  Let (decide (x2265.FixtureB > (3 : Int))) fun (x2273 : Bool) =>
  Let (bif x2272 then true else x2273) fun (x2274 : Bool) =>
  Let (decide (s2262 > (0 : Int))) fun (x2275 : Bool) =>
  Let (IntKind.i64.wrap (s2262 - (1 : Int))) fun (x2276 : Int) =>
  Chk ((x2274 == false && x2275 == true) = true → (0 : Int) ≤ x2276 ∧ x2276 < (↑l0.length : Int))
  (Let (ix l0 x2276) fun (x2277 : PairKey) =>
  Rx.Bind (if (x2274 == false && x2275 == true) = true then caromref22_Less x2277 x2265 else some default)
  fun (r2278 : Bool) =>
  Let (!r2278) fun (x2279 : Bool) =>
  Let (bif x2275 then x2279 else false) fun (x2280 : Bool) =>
  Let (bif x2274 then true else x2280) fun (x2281 : Bool) =>
  if x2281 = true then some false else Let (IntKind.i64.wrap (s2262 + (1 : Int))) fun (x2282 : Int) => rec2261 x2282))
  else some true)
  fuel (0 : Int)

noncomputable def caromref25_exists (w0 : World_) (id1 : Int) (n2 : Int) : Option Bool :=
  Rx.Bind (caromref25_FindBody w0 id1) fun (r2283 : Int) =>
  Let (decide (r2283 ≥ (0 : Int))) fun (x2284 : Bool) =>
  Let (decide (n2 ≥ (0 : Int))) fun (x2285 : Bool) =>
  Let (bif x2284 then x2285 else false) fun (x2286 : Bool) =>
  Chk ((x2286 == true) = true → (0 : Int) ≤ r2283 ∧ r2283 < (↑w0.Bodies.length : Int))
  (Let (ix w0.Bodies r2283) fun (x2287 : Body) =>
  Let (↑x2287.Fixtures.length : Int) fun (x2288 : Int) =>
  Let (decide (n2 < x2288)) fun (x2289 : Bool) => Let (bif x2286 then x2289 else false) fun (x2290 : Bool) => some x2290)

noncomputable def caromref25_resolved (w0 : World_) (l1 : (List PairKey)) : Option Bool :=
  LOOP
  (fun (rec2291 : Int → Option Bool) (s2292 : Int) =>
  Let (↑l1.length : Int) fun (x2293 : Int) =>
  Let (decide (s2292 < x2293)) fun (x2294 : Bool) =>
  if x2294 = true then
  Chk ((0 : Int) ≤ s2292 ∧ s2292 < (↑l1.length : Int))
  (Let (ix l1 s2292) fun (x2295 : PairKey) =>
  Chk ((0 : Int) ≤ s2292 ∧ s2292 < (↑l1.length : Int))
  (Let (ix l1 s2292) fun (x2296 : PairKey) =>
  Rx.Bind (caromref25_exists w0 x2295.BodyA x2296.FixtureA) fun (r2297 : Bool) =>
  Let (!r2297) fun (x2298 : Bool) =>
  Chk ((x2298 == false) = true → (0 : Int) ≤ s2292 ∧ s2292 < (↑l1.length : Int))
  (Let (ix l1 s2292) fun (x2299 : PairKey) =>
  Chk ((x2298 == false) = true → (0 : Int) ≤ s2292 ∧ s2292 < (↑l1.length : Int))
  (Let (ix l1 s2292) fun (x2300 : PairKey) =>
  Rx.Bind (if (x2298 == false) = true then caromref25_exists w0 x2299.BodyB x2300.FixtureB else some default)
  fun (r2301 : Bool) =>
  Let (!r2301) fun (x2302 : Bool) =>
  Let (bif x2298 then true else x2302) fun (x2303 : Bool) =>
  if x2303 = true then some false else Let (IntKind.i64.wrap (s2292 + (1 : Int))) fun (x2304 : Int) => rec2291 x2304))))
  else some true)
  fuel (0 : Int)

noncomputable def caromref25_saturated (v0 : Vec) : Option Bool :=
  Rx.Bind (caromref25_in v0.X (-536870911 : Int) (536870911 : Int)) fun (r2305 : Bool) =>
  Rx.Bind (if (r2305 == true) = true then caromref25_in v0.Y (-536870911 : Int) (536870911 : Int) else some default)
  fun (r2306 : Bool) => Let (bif r2305 then r2306 else false) fun (x2307 : Bool) => some x2307

noncomputable def caromref25_validPoints (m0 : Manifold) : Option Bool :=
  Let (↑m0.Points.length : Int) fun (x2308 : Int) =>
  Let (decide (x2308 < (1 : Int))) fun (x2309 : Bool) =>
  Let (decide (x2308 > (2 : Int))) fun (x2310 : Bool) =>
  Let (bif x2309 then true else x2310) fun (x2311 : Bool) =>
  Let (x2308 == (2 : Int)) fun (x2312 : Bool) =>
  Chk ((x2311 == false && x2312 == true) = true → (0 : Int) ≤ (0 : Int) ∧ (0 : Int) < (↑m0.Points.length : Int))
  (Let (ix m0.Points (0 : Int)) fun (x2313 : ContactPoint) =>
  Chk ((x2311 == false && x2312 == true) = true → (0 : Int) ≤ (1 : Int) ∧ (1 : Int) < (↑m0.Points.length : Int))
  (Let (ix m0.Points (1 : Int)) fun (x2314 : ContactPoint) =>
  Let (x2313.ID == x2314.ID) fun (x2315 : Bool) =>
  Let (bif x2312 then x2315 else false) fun (x2316 : Bool) =>
  Let (bif x2311 then true else x2316) fun (x2317 : Bool) =>
  Rx.Bind (if (x2317 == false) = true then caromref25_saturated m0.Normal else some default) fun (r2318 : Bool) =>
  Let (!r2318) fun (x2319 : Bool) =>
  Let (bif x2317 then true else x2319) fun (x2320 : Bool) =>
  if x2320 = true then some false
  else
  LOOP
  (fun (rec2321 : Int → Option Bool) (s2322 : Int) =>
  Let (decide (s2322 < x2308)) fun (x2323 : Bool) =>
  if x2323 = true then
  Chk ((0 : Int) ≤ s2322 ∧ s2322 < (↑m0.Points.length : Int))
  (Let (ix m0.Points s2322) fun (x2324 : ContactPoint) =>
  Rx.Bind (caromref25_in x2324.NormalImpulse (0 : Int) (536870911 : Int)) fun (r2325 : Bool) =>
  Let (!r2325) fun (x2326 : Bool) =>
  Rx.Bind
  (if (x2326 == false) = true then caromref25_in x2324.TangentImpulse (-536870911 : Int) (536870911 : Int)
  else some default)
  fun (r2327 : Bool) =>
  Let (!r2327) fun (x2328 : Bool) =>
  Let (bif x2326 then true else x2328) fun (x2329 : Bool) =>
  Rx.Bind (if (x2329 == false) = true then caromref25_saturated x2324.Point else some default) fun (r2330 : Bool) =>
  Let (!r2330) fun (x2331 : Bool) =>
  Let (bif x2329 then true else x2331) fun (x2332 : Bool) =>
  Rx.Bind
  (if (x2332 == false) = true then caromref25_saturated { X := x2324.Separation, Y := x2324.ID : Vec } else some default)
  fun (r2333 : Bool) =>
  Let (!r2333) fun (x2334 : Bool) =>
  Let (bif x2332 then true else x2334) fun (x2335 : Bool) =>
  if x2335 = true then some false else Let (IntKind.i64.wrap (s2322 + (1 : Int))) fun (x2336 : Int) => rec2321 x2336)
  else some true)
  fuel (0 : Int)))

noncomputable def caromref25_validContacts (w0 : World_) : Option Bool :=
  Rx.Bind (caromref25_Keys w0.Contacts) fun (r2337 : List PairKey) =>
  Rx.Bind (caromref22_ValidKeys r2337) fun (r2338 : Bool) =>
  Let (!r2338) fun (x2339 : Bool) =>
  Rx.Bind (if (x2339 == false) = true then caromref22_ValidKeys w0.Overlaps else some default) fun (r2340 : Bool) =>
  Let (!r2340) fun (x2341 : Bool) =>
  Let (bif x2339 then true else x2341) fun (x2342 : Bool) =>
  Rx.Bind (if (x2342 == false) = true then caromref25_resolved w0 r2337 else some default) fun (r2343 : Bool) =>
  Let (!r2343) fun (x2344 : Bool) =>
  Let (bif x2342 then true else x2344) fun (x2345 : Bool) =>
  Rx.Bind (if (x2345 == false) = true then caromref25_resolved w0 w0.Overlaps else some default) fun (r2346 : Bool) =>
  Let (!r2346) fun (x2347 : Bool) =>
  Let (bif x2345 then true else x2347) fun (x2348 : Bool) =>
  if x2348 = true then some false
  else
  LOOP
  (fun (rec2349 : Int → Option Bool) (s2350 : Int) =>
  Let (↑w0.Contacts.length : Int) fun (x2351 : Int) =>
  Let (decide (s2350 < x2351)) fun (x2352 : Bool) =>
  if x2352 = true then
  Chk ((0 : Int) ≤ s2350 ∧ s2350 < (↑w0.Contacts.length : Int))
  (Let (ix w0.Contacts s2350) fun (x2353 : Contact) =>
  Rx.Bind (caromref25_validPoints x2353.Manifold) fun (r2354 : Bool) =>
  Let (!r2354) fun (x2355 : Bool) =>
  if x2355 = true then some false else Let (IntKind.i64.wrap (s2350 + (1 : Int))) fun (x2356 : Int) => rec2349 x2356)
  else some true)
  fuel (0 : Int)

noncomputable def caromref25_Validate (w0 : World_) : Option Int :=
  Rx.Bind (caromref25_ValidateSettings w0.Settings) fun (r2357 : Int) =>
  Let (r2357 != (0 : Int)) fun (x2358 : Bool) =>
  if x2358 = true then some (17 : Int)
  else
  Let (↑w0.Bodies.length : Int) fun (x2359 : Int) =>
  Let (decide (x2359 > (32 : Int))) fun (x2360 : Bool) =>
  Let (↑w0.Joints.length : Int) fun (x2361 : Int) =>
  Let (decide (x2361 > (32 : Int))) fun (x2362 : Bool) =>
  Let (bif x2360 then true else x2362) fun (x2363 : Bool) =>
  Let (↑w0.Contacts.length : Int) fun (x2364 : Int) =>
  Let (decide (x2364 > (8192 : Int))) fun (x2365 : Bool) =>
  Let (bif x2363 then true else x2365) fun (x2366 : Bool) =>
  Let (↑w0.Overlaps.length : Int) fun (x2367 : Int) =>
  Let (decide (x2367 > (8192 : Int))) fun (x2368 : Bool) =>
  Let (bif x2366 then true else x2368) fun (x2369 : Bool) =>
  if x2369 = true then some (11 : Int)
  else
  Rx.Bind (caromref25_in w0.NextID (1 : Int) (1099511627776 : Int)) fun (r2370 : Bool) =>
  Let (!r2370) fun (x2371 : Bool) =>
  Rx.Bind (if (x2371 == false) = true then caromref25_in w0.Frame (0 : Int) (1099511627776 : Int) else some default)
  fun (r2372 : Bool) =>
  Let (!r2372) fun (x2373 : Bool) =>
  Let (bif x2371 then true else x2373) fun (x2374 : Bool) =>
  if x2374 = true then some (6 : Int)
  else
  Rx.Bind (caromref25_validBodies w0) fun (r2375 : Bool) =>
  Let (!r2375) fun (x2376 : Bool) =>
  if x2376 = true then some (14 : Int)
  else
  Rx.Bind (caromref25_validJoints w0) fun (r2377 : Bool) =>
  Let (!r2377) fun (x2378 : Bool) =>
  if x2378 = true then some (15 : Int)
  else
  Rx.Bind (caromref25_validContacts w0) fun (r2379 : Bool) =>
  Let (!r2379) fun (x2380 : Bool) => if x2380 = true then some (16 : Int) else some (0 : Int)

noncomputable def caromref12_Clone (s0 : Shape) : Option Shape :=
  Chk (s0.Vertices.length * (16 : Nat) ≤ (140737488355328 : Nat)) (some s0)

noncomputable def caromref23_Clone (b0 : Body) : Option Body :=
  LOOP
  (fun (rec2381 : List Fixture × Int → Option Body) (s2382 : List Fixture × Int) =>
  Let (↑b0.Fixtures.length : Int) fun (x2383 : Int) =>
  Let (decide (s2382.snd < x2383)) fun (x2384 : Bool) =>
  if x2384 = true then
  Chk ((0 : Int) ≤ s2382.snd ∧ s2382.snd < (↑b0.Fixtures.length : Int))
  (Let (ix b0.Fixtures s2382.snd) fun (x2385 : Fixture) =>
  Rx.Bind (caromref12_Clone x2385.Shape) fun (r2386 : Shape) =>
  Chk
  ((List.length s2382.fst +
  [{ Shape := r2386, Density := x2385.Density, Friction := x2385.Friction, Restitution := x2385.Restitution, Sensor := x2385.Sensor, Category := x2385.Category, Mask := x2385.Mask, Group := x2385.Group : Fixture }].length) *
  (96 : Nat) ≤
  (140737488355328 : Nat))
  (Let
  (s2382.fst ++
  [{ Shape := r2386, Density := x2385.Density, Friction := x2385.Friction, Restitution := x2385.Restitution, Sensor := x2385.Sensor, Category := x2385.Category, Mask := x2385.Mask, Group := x2385.Group : Fixture }])
  fun (x2387 : List Fixture) =>
  Let (IntKind.i64.wrap (s2382.snd + (1 : Int))) fun (x2388 : Int) => rec2381 (x2387, x2388)))
  else
  some
  { ID := b0.ID, Kind := b0.Kind, Transform := b0.Transform, Velocity := b0.Velocity, AngularVelocity := b0.AngularVelocity, Force := b0.Force, Torque := b0.Torque, LinearDamping := b0.LinearDamping, AngularDamping := b0.AngularDamping, GravityScale := b0.GravityScale, Bullet := b0.Bullet, FixedRotation := b0.FixedRotation, NoSleep := b0.NoSleep, Asleep := b0.Asleep, IdleSteps := b0.IdleSteps, Fixtures := s2382.fst : Body })
  fuel ([], (0 : Int))

noncomputable def caromref16_Clone (m0 : Manifold) : Option Manifold :=
  Chk (m0.Points.length * (48 : Nat) ≤ (140737488355328 : Nat)) (some m0)

noncomputable def caromref25_Clone (w0 : World_) : Option World_ :=
  LOOP
  (fun (rec2389 : Int × World_ → Option World_) (s2390 : Int × World_) =>
  Let (↑w0.Bodies.length : Int) fun (x2391 : Int) =>
  Let (decide (s2390.fst < x2391)) fun (x2392 : Bool) =>
  if x2392 = true then
  Chk ((0 : Int) ≤ s2390.fst ∧ s2390.fst < (↑w0.Bodies.length : Int))
  (Let (ix w0.Bodies s2390.fst) fun (x2393 : Body) =>
  Rx.Bind (caromref23_Clone x2393) fun (r2394 : Body) =>
  Chk ((s2390.snd.Bodies.length + [r2394].length) * (152 : Nat) ≤ (140737488355328 : Nat))
  (Let (s2390.snd.Bodies ++ [r2394]) fun (x2395 : List Body) =>
  Let (IntKind.i64.wrap (s2390.fst + (1 : Int))) fun (x2396 : Int) =>
  rec2389
  (x2396,
  { Settings := s2390.snd.Settings, Bodies := x2395, Joints := s2390.snd.Joints, Contacts := s2390.snd.Contacts, Overlaps := s2390.snd.Overlaps, NextID := s2390.snd.NextID, Frame := s2390.snd.Frame : World_ })))
  else
  Chk (w0.Joints.length * (192 : Nat) ≤ (140737488355328 : Nat))
  (LOOP
  (fun (rec2397 : Int × World_ → Option World_) (s2398 : Int × World_) =>
  Let (↑w0.Contacts.length : Int) fun (x2399 : Int) =>
  Let (decide (s2398.fst < x2399)) fun (x2400 : Bool) =>
  if x2400 = true then
  Chk ((0 : Int) ≤ s2398.fst ∧ s2398.fst < (↑w0.Contacts.length : Int))
  (Let (ix w0.Contacts s2398.fst) fun (x2401 : Contact) =>
  Chk ((0 : Int) ≤ s2398.fst ∧ s2398.fst < (↑w0.Contacts.length : Int))
  (Let (ix w0.Contacts s2398.fst) fun (x2402 : Contact) =>
  Rx.Bind (caromref16_Clone x2402.Manifold) fun (r2403 : Manifold) =>
  Chk
  ((s2398.snd.Contacts.length + [{ Key := x2401.Key, Manifold := r2403 : Contact }].length) * (72 : Nat) ≤
  (140737488355328 : Nat))
  (Let (s2398.snd.Contacts ++ [{ Key := x2401.Key, Manifold := r2403 : Contact }]) fun (x2404 : List Contact) =>
  Let (IntKind.i64.wrap (s2398.fst + (1 : Int))) fun (x2405 : Int) =>
  rec2397
  (x2405,
  { Settings := s2398.snd.Settings, Bodies := s2398.snd.Bodies, Joints := s2398.snd.Joints, Contacts := x2404, Overlaps := s2398.snd.Overlaps, NextID := s2398.snd.NextID, Frame := s2398.snd.Frame : World_ }))))
  else
  Chk (w0.Overlaps.length * (32 : Nat) ≤ (140737488355328 : Nat))
  (some
  { Settings := s2398.snd.Settings, Bodies := s2398.snd.Bodies, Joints := s2398.snd.Joints, Contacts := s2398.snd.Contacts, Overlaps := w0.Overlaps, NextID := s2398.snd.NextID, Frame := s2398.snd.Frame : World_ }))
  fuel
  ((0 : Int),
  { Settings := s2390.snd.Settings, Bodies := s2390.snd.Bodies, Joints := w0.Joints, Contacts := s2390.snd.Contacts, Overlaps := s2390.snd.Overlaps, NextID := s2390.snd.NextID, Frame := s2390.snd.Frame : World_ })))
  fuel
  ((0 : Int),
  { Settings := w0.Settings, Bodies := [], Joints := w0.Joints, Contacts := [], Overlaps := w0.Overlaps, NextID := w0.NextID, Frame := w0.Frame : World_ })

noncomputable def caromref25_AddBody (w0 : World_) (b1 : Body) : Option (World_ × Int × Int) :=
  Let (↑w0.Bodies.length : Int) fun (x2406 : Int) =>
  Let (decide (x2406 ≥ (32 : Int))) fun (x2407 : Bool) =>
  Let (decide (w0.NextID ≥ (1099511627776 : Int))) fun (x2408 : Bool) =>
  Let (bif x2407 then true else x2408) fun (x2409 : Bool) =>
  if x2409 = true then
  some
  ({ Settings := { TimeStep := (0 : Int), Gravity := { X := (0 : Int), Y := (0 : Int) : Vec }, Iterations := (0 : Int), SleepSteps := (0 : Int) : Settings }, Bodies := [], Joints := [], Contacts := [], Overlaps := [], NextID := (0 : Int), Frame := (0 : Int) : World_ },
  (0 : Int), (9 : Int))
  else
  Rx.Bind
  (caromref23_Validate
  { ID := w0.NextID, Kind := b1.Kind, Transform := b1.Transform, Velocity := b1.Velocity, AngularVelocity := b1.AngularVelocity, Force := b1.Force, Torque := b1.Torque, LinearDamping := b1.LinearDamping, AngularDamping := b1.AngularDamping, GravityScale := b1.GravityScale, Bullet := b1.Bullet, FixedRotation := b1.FixedRotation, NoSleep := b1.NoSleep, Asleep := b1.Asleep, IdleSteps := b1.IdleSteps, Fixtures := b1.Fixtures : Body })
  fun (r2410 : Int) =>
  Let (r2410 != (0 : Int)) fun (x2411 : Bool) =>
  if x2411 = true then
  some
  ({ Settings := { TimeStep := (0 : Int), Gravity := { X := (0 : Int), Y := (0 : Int) : Vec }, Iterations := (0 : Int), SleepSteps := (0 : Int) : Settings }, Bodies := [], Joints := [], Contacts := [], Overlaps := [], NextID := (0 : Int), Frame := (0 : Int) : World_ },
  (0 : Int), (14 : Int))
  else
  Rx.Bind (caromref25_Clone w0) fun (r2412 : World_) =>
  Rx.Bind
  (caromref23_Clone
  { ID := w0.NextID, Kind := b1.Kind, Transform := b1.Transform, Velocity := b1.Velocity, AngularVelocity := b1.AngularVelocity, Force := b1.Force, Torque := b1.Torque, LinearDamping := b1.LinearDamping, AngularDamping := b1.AngularDamping, GravityScale := b1.GravityScale, Bullet := b1.Bullet, FixedRotation := b1.FixedRotation, NoSleep := b1.NoSleep, Asleep := b1.Asleep, IdleSteps := b1.IdleSteps, Fixtures := b1.Fixtures : Body })
  fun (r2413 : Body) =>
  Chk ((r2412.Bodies.length + [r2413].length) * (152 : Nat) ≤ (140737488355328 : Nat))
  (Let (r2412.Bodies ++ [r2413]) fun (x2414 : List Body) =>
  Let (IntKind.i64.wrap (w0.NextID + (1 : Int))) fun (x2415 : Int) =>
  some
  ({ Settings := r2412.Settings, Bodies := x2414, Joints := r2412.Joints, Contacts := r2412.Contacts, Overlaps := r2412.Overlaps, NextID := x2415, Frame := r2412.Frame : World_ },
  w0.NextID, (0 : Int)))

noncomputable def caromref25_WakeBody (w0 : World_) (id1 : Int) : Option World_ :=
  Rx.Bind (caromref25_Clone w0) fun (r2416 : World_) =>
  Rx.Bind (caromref25_FindBody w0 id1) fun (r2417 : Int) =>
  Join
  (fun (v2418 : List Body) =>
  some
  { Settings := r2416.Settings, Bodies := v2418, Joints := r2416.Joints, Contacts := r2416.Contacts, Overlaps := r2416.Overlaps, NextID := r2416.NextID, Frame := r2416.Frame : World_ })
  fun (j2419 : List Body → Option World_) =>
  Let (decide (r2417 ≥ (0 : Int))) fun (x2420 : Bool) =>
  Chk ((x2420 == true) = true → (0 : Int) ≤ r2417 ∧ r2417 < (↑w0.Bodies.length : Int))
  (Let (ix w0.Bodies r2417) fun (x2421 : Body) =>
  Let (x2421.Kind == (3 : Int)) fun (x2422 : Bool) =>
  Let (bif x2420 then x2422 else false) fun (x2423 : Bool) =>
  if x2423 = true then
  Chk ((0 : Int) ≤ r2417 ∧ r2417 < (↑r2416.Bodies.length : Int))
  (Chk ((0 : Int) ≤ r2417 ∧ r2417 < (↑r2416.Bodies.length : Int))
  (Let
  (r2416.Bodies.set r2417.toNat
  { ID := (ix r2416.Bodies r2417).ID, Kind := (ix r2416.Bodies r2417).Kind, Transform := (ix r2416.Bodies r2417).Transform, Velocity := (ix r2416.Bodies r2417).Velocity, AngularVelocity := (ix r2416.Bodies r2417).AngularVelocity, Force := (ix r2416.Bodies r2417).Force, Torque := (ix r2416.Bodies r2417).Torque, LinearDamping := (ix r2416.Bodies r2417).LinearDamping, AngularDamping := (ix r2416.Bodies r2417).AngularDamping, GravityScale := (ix r2416.Bodies r2417).GravityScale, Bullet := (ix r2416.Bodies r2417).Bullet, FixedRotation := (ix r2416.Bodies r2417).FixedRotation, NoSleep := (ix r2416.Bodies r2417).NoSleep, Asleep := false, IdleSteps := (ix r2416.Bodies r2417).IdleSteps, Fixtures := (ix r2416.Bodies r2417).Fixtures : Body })
  fun (x2424 : List Body) =>
  Chk ((0 : Int) ≤ r2417 ∧ r2417 < (↑x2424.length : Int))
  (Chk ((0 : Int) ≤ r2417 ∧ r2417 < (↑x2424.length : Int))
  (Let
  (x2424.set r2417.toNat
  { ID := (ix x2424 r2417).ID, Kind := (ix x2424 r2417).Kind, Transform := (ix x2424 r2417).Transform, Velocity := (ix x2424 r2417).Velocity, AngularVelocity := (ix x2424 r2417).AngularVelocity, Force := (ix x2424 r2417).Force, Torque := (ix x2424 r2417).Torque, LinearDamping := (ix x2424 r2417).LinearDamping, AngularDamping := (ix x2424 r2417).AngularDamping, GravityScale := (ix x2424 r2417).GravityScale, Bullet := (ix x2424 r2417).Bullet, FixedRotation := (ix x2424 r2417).FixedRotation, NoSleep := (ix x2424 r2417).NoSleep, Asleep := (ix x2424 r2417).Asleep, IdleSteps := (0 : Int), Fixtures := (ix x2424 r2417).Fixtures : Body })
  fun (x2425 : List Body) => j2419 x2425))))
  else j2419 r2416.Bodies)

noncomputable def caromref25_AddJoint (w0 : World_) (j1 : Joint) : Option (World_ × Int × Int) :=
  Let (↑w0.Joints.length : Int) fun (x2426 : Int) =>
  Let (decide (x2426 ≥ (32 : Int))) fun (x2427 : Bool) =>
  Let (decide (w0.NextID ≥ (1099511627776 : Int))) fun (x2428 : Bool) =>
  Let (bif x2427 then true else x2428) fun (x2429 : Bool) =>
  if x2429 = true then
  some
  ({ Settings := { TimeStep := (0 : Int), Gravity := { X := (0 : Int), Y := (0 : Int) : Vec }, Iterations := (0 : Int), SleepSteps := (0 : Int) : Settings }, Bodies := [], Joints := [], Contacts := [], Overlaps := [], NextID := (0 : Int), Frame := (0 : Int) : World_ },
  (0 : Int), (9 : Int))
  else
  Rx.Bind
  (caromref24_Validate
  { ID := w0.NextID, Kind := j1.Kind, BodyA := j1.BodyA, BodyB := j1.BodyB, AnchorA := j1.AnchorA, AnchorB := j1.AnchorB, Axis := j1.Axis, ReferenceAngle := j1.ReferenceAngle, EnableLimit := j1.EnableLimit, Lower := j1.Lower, Upper := j1.Upper, EnableMotor := j1.EnableMotor, MotorSpeed := j1.MotorSpeed, MaxForce := j1.MaxForce, Softness := j1.Softness, BreakForce := j1.BreakForce, CollideConnected := j1.CollideConnected, Impulses := ((0 : Int), (0 : Int), (0 : Int), (0 : Int)) : Joint })
  fun (r2430 : Int) =>
  Let (r2430 != (0 : Int)) fun (x2431 : Bool) =>
  Rx.Bind
  (if (x2431 == false) = true then
  caromref25_connected w0
  { ID := w0.NextID, Kind := j1.Kind, BodyA := j1.BodyA, BodyB := j1.BodyB, AnchorA := j1.AnchorA, AnchorB := j1.AnchorB, Axis := j1.Axis, ReferenceAngle := j1.ReferenceAngle, EnableLimit := j1.EnableLimit, Lower := j1.Lower, Upper := j1.Upper, EnableMotor := j1.EnableMotor, MotorSpeed := j1.MotorSpeed, MaxForce := j1.MaxForce, Softness := j1.Softness, BreakForce := j1.BreakForce, CollideConnected := j1.CollideConnected, Impulses := ((0 : Int), (0 : Int), (0 : Int), (0 : Int)) : Joint }
  else some default)
  fun (r2432 : Bool) =>
  Let (!r2432) fun (x2433 : Bool) =>
  Let (bif x2431 then true else x2433) fun (x2434 : Bool) =>
  if x2434 = true then
  some
  ({ Settings := { TimeStep := (0 : Int), Gravity := { X := (0 : Int), Y := (0 : Int) : Vec }, Iterations := (0 : Int), SleepSteps := (0 : Int) : Settings }, Bodies := [], Joints := [], Contacts := [], Overlaps := [], NextID := (0 : Int), Frame := (0 : Int) : World_ },
  (0 : Int), (15 : Int))
  else
  Rx.Bind (caromref25_Clone w0) fun (r2435 : World_) =>
  Chk
  ((r2435.Joints.length +
  [{ ID := w0.NextID, Kind := j1.Kind, BodyA := j1.BodyA, BodyB := j1.BodyB, AnchorA := j1.AnchorA, AnchorB := j1.AnchorB, Axis := j1.Axis, ReferenceAngle := j1.ReferenceAngle, EnableLimit := j1.EnableLimit, Lower := j1.Lower, Upper := j1.Upper, EnableMotor := j1.EnableMotor, MotorSpeed := j1.MotorSpeed, MaxForce := j1.MaxForce, Softness := j1.Softness, BreakForce := j1.BreakForce, CollideConnected := j1.CollideConnected, Impulses := ((0 : Int), (0 : Int), (0 : Int), (0 : Int)) : Joint }].length) *
  (192 : Nat) ≤
  (140737488355328 : Nat))
  (Let
  (r2435.Joints ++
  [{ ID := w0.NextID, Kind := j1.Kind, BodyA := j1.BodyA, BodyB := j1.BodyB, AnchorA := j1.AnchorA, AnchorB := j1.AnchorB, Axis := j1.Axis, ReferenceAngle := j1.ReferenceAngle, EnableLimit := j1.EnableLimit, Lower := j1.Lower, Upper := j1.Upper, EnableMotor := j1.EnableMotor, MotorSpeed := j1.MotorSpeed, MaxForce := j1.MaxForce, Softness := j1.Softness, BreakForce := j1.BreakForce, CollideConnected := j1.CollideConnected, Impulses := ((0 : Int), (0 : Int), (0 : Int), (0 : Int)) : Joint }])
  fun (x2436 : List Joint) =>
  Let (IntKind.i64.wrap (w0.NextID + (1 : Int))) fun (x2437 : Int) =>
  Rx.Bind
  (caromref25_WakeBody
  { Settings := r2435.Settings, Bodies := r2435.Bodies, Joints := x2436, Contacts := r2435.Contacts, Overlaps := r2435.Overlaps, NextID := x2437, Frame := r2435.Frame : World_ }
  j1.BodyA)
  fun (r2438 : World_) =>
  Rx.Bind (caromref25_WakeBody r2438 j1.BodyB) fun (r2439 : World_) => some (r2439, w0.NextID, (0 : Int)))

noncomputable def caromref24_Attached (j0 : Joint) (id1 : Int) : Option Bool :=
  Let (id1 != (0 : Int)) fun (x2440 : Bool) =>
  Let (j0.BodyA == id1) fun (x2441 : Bool) =>
  Let (j0.BodyB == id1) fun (x2442 : Bool) =>
  Let (bif x2441 then true else x2442) fun (x2443 : Bool) =>
  Let (bif x2440 then x2443 else false) fun (x2444 : Bool) => some x2444

noncomputable def caromref25_other (k0 : PairKey) (id1 : Int) : Option (Int × Bool) :=
  Let (k0.BodyA == id1) fun (x2445 : Bool) =>
  if x2445 = true then some (k0.BodyB, true) else Let (k0.BodyB == id1) fun (x2446 : Bool) => some (k0.BodyA, x2446)

noncomputable def caromref25_RemoveBody (w0 : World_) (id1 : Int) : Option (World_ × Int) :=
  Rx.Bind (caromref25_FindBody w0 id1) fun (r2447 : Int) =>
  Let (decide (r2447 < (0 : Int))) fun (x2448 : Bool) =>
  if x2448 = true then
  some
  ({ Settings := { TimeStep := (0 : Int), Gravity := { X := (0 : Int), Y := (0 : Int) : Vec }, Iterations := (0 : Int), SleepSteps := (0 : Int) : Settings }, Bodies := [], Joints := [], Contacts := [], Overlaps := [], NextID := (0 : Int), Frame := (0 : Int) : World_ },
  (8 : Int))
  else
  Rx.Bind (caromref25_Clone w0) fun (r2449 : World_) =>
  Chk
  ((0 : Int) ≤ none.getD (0 : Int) ∧
  (0 : Int) ≤ (some r2447).getD (0 : Int) ∧ (0 : Nat) ≤ r2447.toNat ∧ r2447.toNat ≤ r2449.Bodies.length)
  (Let (IntKind.i64.wrap (r2447 + (1 : Int))) fun (x2450 : Int) =>
  Chk
  ((0 : Int) ≤ (some x2450).getD (0 : Int) ∧
  (0 : Int) ≤ none.getD (0 : Int) ∧ x2450.toNat ≤ r2449.Bodies.length ∧ r2449.Bodies.length ≤ r2449.Bodies.length)
  (Chk (x2450.toNat + (r2449.Bodies.length - x2450.toNat) ≤ r2449.Bodies.length)
  (Let (List.take (r2449.Bodies.length - x2450.toNat) (List.drop x2450.toNat r2449.Bodies)) fun (x2451 : List Body) =>
  Chk
  ((0 : Nat) + (r2447.toNat - (0 : Nat) + x2451.length) ≤ r2449.Bodies.length ∧
  r2447.toNat - (0 : Nat) + x2451.length ≤ r2449.Bodies.length - (0 : Nat) ∧ (0 : Nat) < r2449.Bodies.length - (0 : Nat))
  (Let
  (List.take ((0 : Nat) + (r2447.toNat - (0 : Nat))) r2449.Bodies ++ x2451 ++
  List.drop ((0 : Nat) + (r2447.toNat - (0 : Nat)) + x2451.length) r2449.Bodies)
  fun (x2452 : List Body) =>
  Chk (r2447.toNat - (0 : Nat) + x2451.length ≤ x2452.length)
  (Let (List.take (r2447.toNat - (0 : Nat) + x2451.length) x2452) fun (x2453 : List Body) =>
  LOOP
  (fun (rec2454 : List Int × Int × World_ → Option (World_ × Int)) (s2455 : List Int × Int × World_) =>
  Let (↑w0.Joints.length : Int) fun (x2456 : Int) =>
  Let (decide (s2455.snd.fst < x2456)) fun (x2457 : Bool) =>
  if x2457 = true then
  Join
  (fun (v2458 : List Int × World_) =>
  Let (IntKind.i64.wrap (s2455.snd.fst + (1 : Int))) fun (x2459 : Int) => rec2454 (v2458.fst, x2459, v2458.snd))
  fun (j2460 : List Int × World_ → Option (World_ × Int)) =>
  Chk ((0 : Int) ≤ s2455.snd.fst ∧ s2455.snd.fst < (↑w0.Joints.length : Int))
  (Let (ix w0.Joints s2455.snd.fst) fun (x2461 : Joint) =>
  Rx.Bind (caromref24_Attached x2461 id1) fun (r2462 : Bool) =>
  if r2462 = true then
  Chk ((List.length s2455.fst + [x2461.BodyA, x2461.BodyB].length) * (8 : Nat) ≤ (140737488355328 : Nat))
  (Let (s2455.fst ++ [x2461.BodyA, x2461.BodyB]) fun (x2463 : List Int) => j2460 (x2463, s2455.snd.snd))
  else
  Chk ((s2455.snd.snd.Joints.length + [x2461].length) * (192 : Nat) ≤ (140737488355328 : Nat))
  (Let (s2455.snd.snd.Joints ++ [x2461]) fun (x2464 : List Joint) =>
  j2460
  (s2455.fst,
  { Settings := s2455.snd.snd.Settings, Bodies := s2455.snd.snd.Bodies, Joints := x2464, Contacts := s2455.snd.snd.Contacts, Overlaps := s2455.snd.snd.Overlaps, NextID := s2455.snd.snd.NextID, Frame := s2455.snd.snd.Frame : World_ })))
  else
  LOOP
  (fun (rec2465 : List Int × Int × World_ → Option (World_ × Int)) (s2466 : List Int × Int × World_) =>
  Let (↑w0.Contacts.length : Int) fun (x2467 : Int) =>
  Let (decide (s2466.snd.fst < x2467)) fun (x2468 : Bool) =>
  if x2468 = true then
  Join
  (fun (v2469 : List Int × World_) =>
  Let (IntKind.i64.wrap (s2466.snd.fst + (1 : Int))) fun (x2470 : Int) => rec2465 (v2469.fst, x2470, v2469.snd))
  fun (j2471 : List Int × World_ → Option (World_ × Int)) =>
  Chk ((0 : Int) ≤ s2466.snd.fst ∧ s2466.snd.fst < (↑w0.Contacts.length : Int))
  (Let (ix w0.Contacts s2466.snd.fst) fun (x2472 : Contact) =>
  Rx.Bind (caromref25_other x2472.Key id1) fun (r2473 : Int × Bool) =>
  if r2473.snd = true then
  Chk ((List.length s2466.fst + [r2473.fst].length) * (8 : Nat) ≤ (140737488355328 : Nat))
  (Let (s2466.fst ++ [r2473.fst]) fun (x2474 : List Int) => j2471 (x2474, s2466.snd.snd))
  else
  Chk ((0 : Int) ≤ s2466.snd.fst ∧ s2466.snd.fst < (↑w0.Contacts.length : Int))
  (Let (ix w0.Contacts s2466.snd.fst) fun (x2475 : Contact) =>
  Chk ((0 : Int) ≤ s2466.snd.fst ∧ s2466.snd.fst < (↑w0.Contacts.length : Int))
  (Let (ix w0.Contacts s2466.snd.fst) fun (x2476 : Contact) =>
  Rx.Bind (caromref16_Clone x2476.Manifold) fun (r2477 : Manifold) =>
  Chk
  ((s2466.snd.snd.Contacts.length + [{ Key := x2475.Key, Manifold := r2477 : Contact }].length) * (72 : Nat) ≤
  (140737488355328 : Nat))
  (Let (s2466.snd.snd.Contacts ++ [{ Key := x2475.Key, Manifold := r2477 : Contact }]) fun (x2478 : List Contact) =>
  j2471
  (s2466.fst,
  { Settings := s2466.snd.snd.Settings, Bodies := s2466.snd.snd.Bodies, Joints := s2466.snd.snd.Joints, Contacts := x2478, Overlaps := s2466.snd.snd.Overlaps, NextID := s2466.snd.snd.NextID, Frame := s2466.snd.snd.Frame : World_ })))))
  else
  LOOP
  (fun (rec2479 : Int × World_ → Option (World_ × Int)) (s2480 : Int × World_) =>
  Let (↑w0.Overlaps.length : Int) fun (x2481 : Int) =>
  Let (decide (s2480.fst < x2481)) fun (x2482 : Bool) =>
  if x2482 = true then
  Join
  (fun (v2483 : World_) => Let (IntKind.i64.wrap (s2480.fst + (1 : Int))) fun (x2484 : Int) => rec2479 (x2484, v2483))
  fun (j2485 : World_ → Option (World_ × Int)) =>
  Chk ((0 : Int) ≤ s2480.fst ∧ s2480.fst < (↑w0.Overlaps.length : Int))
  (Let (ix w0.Overlaps s2480.fst) fun (x2486 : PairKey) =>
  Rx.Bind (caromref25_other x2486 id1) fun (r2487 : Int × Bool) =>
  Let (!r2487.snd) fun (x2488 : Bool) =>
  if x2488 = true then
  Chk ((0 : Int) ≤ s2480.fst ∧ s2480.fst < (↑w0.Overlaps.length : Int))
  (Let (ix w0.Overlaps s2480.fst) fun (x2489 : PairKey) =>
  Chk ((s2480.snd.Overlaps.length + [x2489].length) * (32 : Nat) ≤ (140737488355328 : Nat))
  (Let (s2480.snd.Overlaps ++ [x2489]) fun (x2490 : List PairKey) =>
  j2485
  { Settings := s2480.snd.Settings, Bodies := s2480.snd.Bodies, Joints := s2480.snd.Joints, Contacts := s2480.snd.Contacts, Overlaps := x2490, NextID := s2480.snd.NextID, Frame := s2480.snd.Frame : World_ }))
  else j2485 s2480.snd)
  else
  LOOP
  (fun (rec2491 : Int × World_ → Option (World_ × Int)) (s2492 : Int × World_) =>
  Let (↑(List.length s2466.fst) : Int) fun (x2493 : Int) =>
  Let (decide (s2492.fst < x2493)) fun (x2494 : Bool) =>
  if x2494 = true then
  Join
  (fun (v2495 : World_) => Let (IntKind.i64.wrap (s2492.fst + (1 : Int))) fun (x2496 : Int) => rec2491 (x2496, v2495))
  fun (j2497 : World_ → Option (World_ × Int)) =>
  Chk ((0 : Int) ≤ s2492.fst ∧ s2492.fst < (↑(List.length s2466.fst) : Int))
  (Chk ((0 : Int) ≤ s2492.fst ∧ s2492.fst < (↑(List.length s2466.fst) : Int))
  (Let (ix s2466.fst s2492.fst) fun (x2498 : Int) =>
  Let (x2498 != id1) fun (x2499 : Bool) =>
  if x2499 = true then
  Chk ((0 : Int) ≤ s2492.fst ∧ s2492.fst < (↑(List.length s2466.fst) : Int))
  (Chk ((0 : Int) ≤ s2492.fst ∧ s2492.fst < (↑(List.length s2466.fst) : Int))
  (Let (ix s2466.fst s2492.fst) fun (x2500 : Int) =>
  Rx.Bind (caromref25_WakeBody s2492.snd x2500) fun (r2501 : World_) => j2497 r2501))
  else j2497 s2492.snd))
  else some (s2492.snd, (0 : Int)))
  fuel ((0 : Int), s2480.snd))
  fuel ((0 : Int), s2466.snd.snd))
  fuel (s2455.fst, (0 : Int), s2455.snd.snd))
  fuel
  ([], (0 : Int),
  { Settings := r2449.Settings, Bodies := x2453, Joints := [], Contacts := [], Overlaps := [], NextID := r2449.NextID, Frame := r2449.Frame : World_ }))))))

noncomputable def caromref25_FindJoint (w0 : World_) (id1 : Int) : Option Int :=
  LOOP
  (fun (rec2502 : Int → Option Int) (s2503 : Int) =>
  Let (↑w0.Joints.length : Int) fun (x2504 : Int) =>
  Let (decide (s2503 < x2504)) fun (x2505 : Bool) =>
  if x2505 = true then
  Chk ((0 : Int) ≤ s2503 ∧ s2503 < (↑w0.Joints.length : Int))
  (Let (ix w0.Joints s2503) fun (x2506 : Joint) =>
  Let (x2506.ID == id1) fun (x2507 : Bool) =>
  if x2507 = true then some s2503 else Let (IntKind.i64.wrap (s2503 + (1 : Int))) fun (x2508 : Int) => rec2502 x2508)
  else some (-1 : Int))
  fuel (0 : Int)

noncomputable def caromref25_RemoveJoint (w0 : World_) (id1 : Int) : Option (World_ × Int) :=
  Rx.Bind (caromref25_FindJoint w0 id1) fun (r2509 : Int) =>
  Let (decide (r2509 < (0 : Int))) fun (x2510 : Bool) =>
  if x2510 = true then
  some
  ({ Settings := { TimeStep := (0 : Int), Gravity := { X := (0 : Int), Y := (0 : Int) : Vec }, Iterations := (0 : Int), SleepSteps := (0 : Int) : Settings }, Bodies := [], Joints := [], Contacts := [], Overlaps := [], NextID := (0 : Int), Frame := (0 : Int) : World_ },
  (8 : Int))
  else
  Rx.Bind (caromref25_Clone w0) fun (r2511 : World_) =>
  Chk
  ((0 : Int) ≤ none.getD (0 : Int) ∧
  (0 : Int) ≤ (some r2509).getD (0 : Int) ∧ (0 : Nat) ≤ r2509.toNat ∧ r2509.toNat ≤ r2511.Joints.length)
  (Let (IntKind.i64.wrap (r2509 + (1 : Int))) fun (x2512 : Int) =>
  Chk
  ((0 : Int) ≤ (some x2512).getD (0 : Int) ∧
  (0 : Int) ≤ none.getD (0 : Int) ∧ x2512.toNat ≤ r2511.Joints.length ∧ r2511.Joints.length ≤ r2511.Joints.length)
  (Chk (x2512.toNat + (r2511.Joints.length - x2512.toNat) ≤ r2511.Joints.length)
  (Let (List.take (r2511.Joints.length - x2512.toNat) (List.drop x2512.toNat r2511.Joints)) fun (x2513 : List Joint) =>
  Chk
  ((0 : Nat) + (r2509.toNat - (0 : Nat) + x2513.length) ≤ r2511.Joints.length ∧
  r2509.toNat - (0 : Nat) + x2513.length ≤ r2511.Joints.length - (0 : Nat) ∧ (0 : Nat) < r2511.Joints.length - (0 : Nat))
  (Let
  (List.take ((0 : Nat) + (r2509.toNat - (0 : Nat))) r2511.Joints ++ x2513 ++
  List.drop ((0 : Nat) + (r2509.toNat - (0 : Nat)) + x2513.length) r2511.Joints)
  fun (x2514 : List Joint) =>
  Chk (r2509.toNat - (0 : Nat) + x2513.length ≤ x2514.length)
  (Let (List.take (r2509.toNat - (0 : Nat) + x2513.length) x2514) fun (x2515 : List Joint) =>
  Chk ((0 : Int) ≤ r2509 ∧ r2509 < (↑w0.Joints.length : Int))
  (Let (ix w0.Joints r2509) fun (x2516 : Joint) =>
  Rx.Bind
  (caromref25_WakeBody
  { Settings := r2511.Settings, Bodies := r2511.Bodies, Joints := x2515, Contacts := r2511.Contacts, Overlaps := r2511.Overlaps, NextID := r2511.NextID, Frame := r2511.Frame : World_ }
  x2516.BodyA)
  fun (r2517 : World_) =>
  Chk ((0 : Int) ≤ r2509 ∧ r2509 < (↑w0.Joints.length : Int))
  (Let (ix w0.Joints r2509) fun (x2518 : Joint) =>
  Rx.Bind (caromref25_WakeBody r2517 x2518.BodyB) fun (r2519 : World_) => some (r2519, (0 : Int)))))))))

noncomputable def caromref43_joint (w0 : World_) (x1 : Input) : Option (World_ × Int) :=
  Rx.Bind (caromref25_FindJoint w0 x1.ID) fun (r2520 : Int) =>
  Let (decide (r2520 < (0 : Int))) fun (x2521 : Bool) =>
  if x2521 = true then
  some
  ({ Settings := { TimeStep := (0 : Int), Gravity := { X := (0 : Int), Y := (0 : Int) : Vec }, Iterations := (0 : Int), SleepSteps := (0 : Int) : Settings }, Bodies := [], Joints := [], Contacts := [], Overlaps := [], NextID := (0 : Int), Frame := (0 : Int) : World_ },
  (8 : Int))
  else
  Chk ((0 : Int) ≤ r2520 ∧ r2520 < (↑w0.Joints.length : Int))
  (Let (ix w0.Joints r2520) fun (x2522 : Joint) =>
  Let (x1.Kind == (7 : Int)) fun (x2523 : Bool) =>
  Let (x2522.Kind != (5 : Int)) fun (x2524 : Bool) =>
  Let (bif x2523 then x2524 else false) fun (x2525 : Bool) =>
  Let (x1.Kind == (8 : Int)) fun (x2526 : Bool) =>
  Let (!x2522.EnableMotor) fun (x2527 : Bool) =>
  Let (bif x2526 then x2527 else false) fun (x2528 : Bool) =>
  Let (bif x2525 then true else x2528) fun (x2529 : Bool) =>
  if x2529 = true then
  some
  ({ Settings := { TimeStep := (0 : Int), Gravity := { X := (0 : Int), Y := (0 : Int) : Vec }, Iterations := (0 : Int), SleepSteps := (0 : Int) : Settings }, Bodies := [], Joints := [], Contacts := [], Overlaps := [], NextID := (0 : Int), Frame := (0 : Int) : World_ },
  (10 : Int))
  else
  Join
  (fun (v2530 : Joint) =>
  Rx.Bind (caromref24_Validate v2530) fun (r2531 : Int) =>
  Let (r2531 != (0 : Int)) fun (x2532 : Bool) =>
  if x2532 = true then
  some
  ({ Settings := { TimeStep := (0 : Int), Gravity := { X := (0 : Int), Y := (0 : Int) : Vec }, Iterations := (0 : Int), SleepSteps := (0 : Int) : Settings }, Bodies := [], Joints := [], Contacts := [], Overlaps := [], NextID := (0 : Int), Frame := (0 : Int) : World_ },
  (6 : Int))
  else
  Rx.Bind (caromref25_Clone w0) fun (r2533 : World_) =>
  Chk ((0 : Int) ≤ r2520 ∧ r2520 < (↑r2533.Joints.length : Int))
  (Chk ((0 : Int) ≤ r2520 ∧ r2520 < (↑r2533.Joints.length : Int))
  (Let (r2533.Joints.set r2520.toNat v2530) fun (x2534 : List Joint) =>
  Rx.Bind
  (caromref25_WakeBody
  { Settings := r2533.Settings, Bodies := r2533.Bodies, Joints := x2534, Contacts := r2533.Contacts, Overlaps := r2533.Overlaps, NextID := r2533.NextID, Frame := r2533.Frame : World_ }
  v2530.BodyA)
  fun (r2535 : World_) =>
  Rx.Bind (caromref25_WakeBody r2535 v2530.BodyB) fun (r2536 : World_) => some (r2536, (0 : Int)))))
  fun (j2537 : Joint → Option (World_ × Int)) =>
  Let (x1.Kind == (7 : Int)) fun (x2538 : Bool) =>
  if x2538 = true then
  j2537
  { ID := x2522.ID, Kind := x2522.Kind, BodyA := x2522.BodyA, BodyB := x2522.BodyB, AnchorA := x1.Vec, AnchorB := x2522.AnchorB, Axis := x2522.Axis, ReferenceAngle := x2522.ReferenceAngle, EnableLimit := x2522.EnableLimit, Lower := x2522.Lower, Upper := x2522.Upper, EnableMotor := x2522.EnableMotor, MotorSpeed := x2522.MotorSpeed, MaxForce := x2522.MaxForce, Softness := x2522.Softness, BreakForce := x2522.BreakForce, CollideConnected := x2522.CollideConnected, Impulses := x2522.Impulses : Joint }
  else
  j2537
  { ID := x2522.ID, Kind := x2522.Kind, BodyA := x2522.BodyA, BodyB := x2522.BodyB, AnchorA := x2522.AnchorA, AnchorB := x2522.AnchorB, Axis := x2522.Axis, ReferenceAngle := x2522.ReferenceAngle, EnableLimit := x2522.EnableLimit, Lower := x2522.Lower, Upper := x2522.Upper, EnableMotor := x2522.EnableMotor, MotorSpeed := x1.Value, MaxForce := x2522.MaxForce, Softness := x2522.Softness, BreakForce := x2522.BreakForce, CollideConnected := x2522.CollideConnected, Impulses := x2522.Impulses : Joint })

noncomputable def caromref01_Mul (a0 : Int) (b1 : Int) : Option Int :=
  Rx.Bind (caromref01_Saturate a0) fun (r2539 : Int) =>
  Rx.Bind (caromref01_Saturate b1) fun (r2540 : Int) =>
  Let (IntKind.i64.wrap (r2539 * r2540)) fun (x2541 : Int) =>
  Rx.Bind (caromref01_RoundDiv x2541 (65536 : Int)) fun (r2542 : Int) =>
  Rx.Bind (caromref01_Saturate r2542) fun (r2543 : Int) => some r2543

noncomputable def caromref01_Add (a0 : Int) (b1 : Int) : Option Int :=
  Rx.Bind (caromref01_Saturate a0) fun (r2544 : Int) =>
  Rx.Bind (caromref01_Saturate b1) fun (r2545 : Int) =>
  Let (IntKind.i64.wrap (r2544 + r2545)) fun (x2546 : Int) =>
  Rx.Bind (caromref01_Saturate x2546) fun (r2547 : Int) => some r2547

noncomputable def caromref01_Lerp (a0 : Int) (b1 : Int) (t2 : Int) : Option Int :=
  Rx.Bind (caromref01_Sub b1 a0) fun (r2548 : Int) =>
  Rx.Bind (caromref01_Mul r2548 t2) fun (r2549 : Int) => Rx.Bind (caromref01_Add a0 r2549) fun (r2550 : Int) => some r2550

noncomputable def caromref03_Lerp (a0 : Vec) (b1 : Vec) (t2 : Int) : Option Vec :=
  Rx.Bind (caromref01_Lerp a0.X b1.X t2) fun (r2551 : Int) =>
  Rx.Bind (caromref01_Lerp a0.Y b1.Y t2) fun (r2552 : Int) => some { X := r2551, Y := r2552 : Vec }

noncomputable def caromref11_Centroid (vertices0 : (List Vec)) : Option Vec :=
  Rx.Bind (caromref11_IsConvex vertices0) fun (r2553 : Bool) =>
  Let (!r2553) fun (x2554 : Bool) =>
  if x2554 = true then some { X := (0 : Int), Y := (0 : Int) : Vec }
  else
  Chk ((0 : Int) ≤ (0 : Int) ∧ (0 : Int) < (↑vertices0.length : Int))
  (Let (ix vertices0 (0 : Int)) fun (x2555 : Vec) =>
  LOOP
  (fun (rec2556 : Int × Int × Int × Int → Option Vec) (s2557 : Int × Int × Int × Int) =>
  Let (IntKind.i64.wrap (s2557.snd.snd.snd + (1 : Int))) fun (x2558 : Int) =>
  Let (↑vertices0.length : Int) fun (x2559 : Int) =>
  Let (decide (x2558 < x2559)) fun (x2560 : Bool) =>
  if x2560 = true then
  Chk ((0 : Int) ≤ s2557.snd.snd.snd ∧ s2557.snd.snd.snd < (↑vertices0.length : Int))
  (Let (ix vertices0 s2557.snd.snd.snd) fun (x2561 : Vec) =>
  Let (IntKind.i64.wrap (s2557.snd.snd.snd + (1 : Int))) fun (x2562 : Int) =>
  Chk ((0 : Int) ≤ x2562 ∧ x2562 < (↑vertices0.length : Int))
  (Let (ix vertices0 x2562) fun (x2563 : Vec) =>
  Rx.Bind (caromref11_cross vertices0 s2557.snd.snd.snd) fun (r2564 : Int) =>
  Let (IntKind.i64.wrap (s2557.fst + r2564)) fun (x2565 : Int) =>
  Let (IntKind.i64.wrap (x2561.X - x2555.X)) fun (x2566 : Int) =>
  Let (IntKind.i64.wrap (x2566 + x2563.X)) fun (x2567 : Int) =>
  Let (IntKind.i64.wrap (x2567 - x2555.X)) fun (x2568 : Int) =>
  Let (IntKind.i64.wrap (x2568 * r2564)) fun (x2569 : Int) =>
  Let (IntKind.i64.wrap (s2557.snd.fst + x2569)) fun (x2570 : Int) =>
  Let (IntKind.i64.wrap (x2561.Y - x2555.Y)) fun (x2571 : Int) =>
  Let (IntKind.i64.wrap (x2571 + x2563.Y)) fun (x2572 : Int) =>
  Let (IntKind.i64.wrap (x2572 - x2555.Y)) fun (x2573 : Int) =>
  Let (IntKind.i64.wrap (x2573 * r2564)) fun (x2574 : Int) =>
  Let (IntKind.i64.wrap (s2557.snd.snd.fst + x2574)) fun (x2575 : Int) =>
  Let (IntKind.i64.wrap (s2557.snd.snd.snd + (1 : Int))) fun (x2576 : Int) => rec2556 (x2565, x2570, x2575, x2576)))
  else
  Let (s2557.fst == (0 : Int)) fun (x2577 : Bool) =>
  if x2577 = true then some x2555
  else
  Let (IntKind.i64.wrap ((3 : Int) * s2557.fst)) fun (x2578 : Int) =>
  Rx.Bind (caromref01_RoundDiv s2557.snd.fst x2578) fun (r2579 : Int) =>
  Let (IntKind.i64.wrap (x2555.X + r2579)) fun (x2580 : Int) =>
  Let (IntKind.i64.wrap ((3 : Int) * s2557.fst)) fun (x2581 : Int) =>
  Rx.Bind (caromref01_RoundDiv s2557.snd.snd.fst x2581) fun (r2582 : Int) =>
  Let (IntKind.i64.wrap (x2555.Y + r2582)) fun (x2583 : Int) => some { X := x2580, Y := x2583 : Vec })
  fuel ((0 : Int), (0 : Int), (0 : Int), (1 : Int)))

noncomputable def caromref03_Cross (a0 : Vec) (b1 : Vec) : Option Int :=
  Rx.Bind (caromref03_Saturated a0) fun (r2584 : Vec) =>
  Rx.Bind (caromref03_Saturated b1) fun (r2585 : Vec) =>
  Let (IntKind.i64.wrap (r2584.X * r2585.Y)) fun (x2586 : Int) =>
  Let (IntKind.i64.wrap (r2584.Y * r2585.X)) fun (x2587 : Int) =>
  Let (IntKind.i64.wrap (x2586 - x2587)) fun (x2588 : Int) =>
  Rx.Bind (caromref01_RoundDiv x2588 (65536 : Int)) fun (r2589 : Int) =>
  Rx.Bind (caromref01_Saturate r2589) fun (r2590 : Int) => some r2590

noncomputable def caromref03_Dot (a0 : Vec) (b1 : Vec) : Option Int :=
  Rx.Bind (caromref03_Saturated a0) fun (r2591 : Vec) =>
  Rx.Bind (caromref03_Saturated b1) fun (r2592 : Vec) =>
  Let (IntKind.i64.wrap (r2591.X * r2592.X)) fun (x2593 : Int) =>
  Let (IntKind.i64.wrap (r2591.Y * r2592.Y)) fun (x2594 : Int) =>
  Let (IntKind.i64.wrap (x2593 + x2594)) fun (x2595 : Int) =>
  Rx.Bind (caromref01_RoundDiv x2595 (65536 : Int)) fun (r2596 : Int) =>
  Rx.Bind (caromref01_Saturate r2596) fun (r2597 : Int) => some r2597

noncomputable def caromref13_polygonInertia (pts0 : (List Vec)) (c1 : Vec) (m2 : Int) : Option Int :=
  LOOP
  (fun (rec2598 : Int × Int × Int → Option Int) (s2599 : Int × Int × Int) =>
  Let (↑pts0.length : Int) fun (x2600 : Int) =>
  Let (decide (s2599.snd.snd < x2600)) fun (x2601 : Bool) =>
  if x2601 = true then
  Chk ((0 : Int) ≤ s2599.snd.snd ∧ s2599.snd.snd < (↑pts0.length : Int))
  (Let (ix pts0 s2599.snd.snd) fun (x2602 : Vec) =>
  Rx.Bind (caromref03_Sub x2602 c1) fun (r2603 : Vec) =>
  Let (IntKind.i64.wrap (s2599.snd.snd + (1 : Int))) fun (x2604 : Int) =>
  Let (↑pts0.length : Int) fun (x2605 : Int) =>
  Chk (x2605 ≠ (0 : Int))
  (Let (x2604.tmod x2605) fun (x2606 : Int) =>
  Chk ((0 : Int) ≤ x2606 ∧ x2606 < (↑pts0.length : Int))
  (Let (ix pts0 x2606) fun (x2607 : Vec) =>
  Rx.Bind (caromref03_Sub x2607 c1) fun (r2608 : Vec) =>
  Rx.Bind (caromref03_Cross r2603 r2608) fun (r2609 : Int) =>
  Let (IntKind.i64.wrap (s2599.snd.fst + r2609)) fun (x2610 : Int) =>
  Rx.Bind (caromref03_Dot r2603 r2603) fun (r2611 : Int) =>
  Rx.Bind (caromref03_Dot r2603 r2608) fun (r2612 : Int) =>
  Let (IntKind.i64.wrap (r2611 + r2612)) fun (x2613 : Int) =>
  Rx.Bind (caromref03_Dot r2608 r2608) fun (r2614 : Int) =>
  Let (IntKind.i64.wrap (x2613 + r2614)) fun (x2615 : Int) =>
  Let (IntKind.i64.wrap (r2609 * x2615)) fun (x2616 : Int) =>
  Let (IntKind.i64.wrap (s2599.fst + x2616)) fun (x2617 : Int) =>
  Let (IntKind.i64.wrap (s2599.snd.snd + (1 : Int))) fun (x2618 : Int) => rec2598 (x2617, x2610, x2618))))
  else
  Let (decide (s2599.snd.fst < (1 : Int))) fun (x2619 : Bool) =>
  if x2619 = true then some (0 : Int)
  else
  Rx.Bind (caromref01_RoundDiv s2599.fst s2599.snd.fst) fun (r2620 : Int) =>
  Rx.Bind (caromref01_RoundDiv r2620 (6 : Int)) fun (r2621 : Int) =>
  Rx.Bind (caromref01_Mul m2 r2621) fun (r2622 : Int) => some r2622)
  fuel ((0 : Int), (0 : Int), (0 : Int))

noncomputable def caromref13_OfShape (s0 : Shape) (density1 : Int) : Option MassData :=
  Rx.Bind (caromref12_Validate s0) fun (r2623 : Int) =>
  Let (r2623 != (0 : Int)) fun (x2624 : Bool) =>
  Let (decide (density1 < (0 : Int))) fun (x2625 : Bool) =>
  Let (bif x2624 then true else x2625) fun (x2626 : Bool) =>
  Let (decide (density1 > (262144 : Int))) fun (x2627 : Bool) =>
  Let (bif x2626 then true else x2627) fun (x2628 : Bool) =>
  if x2628 = true then
  some { Mass := (0 : Int), Center := { X := (0 : Int), Y := (0 : Int) : Vec }, Inertia := (0 : Int) : MassData }
  else
  Rx.Bind (caromref01_Mul s0.Radius s0.Radius) fun (r2629 : Int) =>
  Rx.Bind (caromref01_Mul (205888 : Int) r2629) fun (r2630 : Int) =>
  Let (s0.Kind == (1 : Int)) fun (x2631 : Bool) =>
  if x2631 = true then
  Rx.Bind (caromref01_Mul r2630 density1) fun (r2632 : Int) =>
  Chk ((0 : Int) ≤ (0 : Int) ∧ (0 : Int) < (↑s0.Vertices.length : Int))
  (Let (ix s0.Vertices (0 : Int)) fun (x2633 : Vec) =>
  Rx.Bind (caromref01_RoundDiv r2629 (2 : Int)) fun (r2634 : Int) =>
  Rx.Bind (caromref01_Mul r2632 r2634) fun (r2635 : Int) =>
  some { Mass := r2632, Center := x2633, Inertia := r2635 : MassData })
  else
  Let (s0.Kind == (2 : Int)) fun (x2636 : Bool) =>
  if x2636 = true then
  Chk ((0 : Int) ≤ (1 : Int) ∧ (1 : Int) < (↑s0.Vertices.length : Int))
  (Let (ix s0.Vertices (1 : Int)) fun (x2637 : Vec) =>
  Chk ((0 : Int) ≤ (0 : Int) ∧ (0 : Int) < (↑s0.Vertices.length : Int))
  (Let (ix s0.Vertices (0 : Int)) fun (x2638 : Vec) =>
  Rx.Bind (caromref03_Sub x2637 x2638) fun (r2639 : Vec) =>
  Rx.Bind (caromref03_Length r2639) fun (r2640 : Int) =>
  Rx.Bind (caromref01_Add s0.Radius s0.Radius) fun (r2641 : Int) =>
  Rx.Bind (caromref01_Mul r2641 r2640) fun (r2642 : Int) =>
  Rx.Bind (caromref01_Add r2630 r2642) fun (r2643 : Int) =>
  Rx.Bind (caromref01_Mul r2643 density1) fun (r2644 : Int) =>
  Chk ((0 : Int) ≤ (0 : Int) ∧ (0 : Int) < (↑s0.Vertices.length : Int))
  (Let (ix s0.Vertices (0 : Int)) fun (x2645 : Vec) =>
  Chk ((0 : Int) ≤ (1 : Int) ∧ (1 : Int) < (↑s0.Vertices.length : Int))
  (Let (ix s0.Vertices (1 : Int)) fun (x2646 : Vec) =>
  Rx.Bind (caromref03_Lerp x2645 x2646 (32768 : Int)) fun (r2647 : Vec) =>
  Rx.Bind (caromref01_RoundDiv r2629 (2 : Int)) fun (r2648 : Int) =>
  Rx.Bind (caromref01_Mul r2640 r2640) fun (r2649 : Int) =>
  Rx.Bind (caromref01_RoundDiv r2649 (12 : Int)) fun (r2650 : Int) =>
  Rx.Bind (caromref01_Add r2648 r2650) fun (r2651 : Int) =>
  Rx.Bind (caromref01_Mul r2644 r2651) fun (r2652 : Int) =>
  some { Mass := r2644, Center := r2647, Inertia := r2652 : MassData }))))
  else
  Rx.Bind (caromref11_Area s0.Vertices) fun (r2653 : Int) =>
  Rx.Bind (caromref01_Mul r2653 density1) fun (r2654 : Int) =>
  Rx.Bind (caromref11_Centroid s0.Vertices) fun (r2655 : Vec) =>
  Rx.Bind (caromref13_polygonInertia s0.Vertices r2655 r2654) fun (r2656 : Int) =>
  some { Mass := r2654, Center := r2655, Inertia := r2656 : MassData }

noncomputable def caromref13_Combine (l0 : (List MassData)) : Option MassData :=
  Let (↑l0.length : Int) fun (x2657 : Int) =>
  Let (decide (x2657 > (8 : Int))) fun (x2658 : Bool) =>
  if x2658 = true then
  some { Mass := (0 : Int), Center := { X := (0 : Int), Y := (0 : Int) : Vec }, Inertia := (0 : Int) : MassData }
  else
  LOOP
  (fun (rec2659 : Int × Int × Int × Int × MassData × MassData → Option MassData)
  (s2660 : Int × Int × Int × Int × MassData × MassData) =>
  Let (↑l0.length : Int) fun (x2661 : Int) =>
  Let (decide (s2660.snd.snd.snd.fst < x2661)) fun (x2662 : Bool) =>
  if x2662 = true then
  Chk ((0 : Int) ≤ s2660.snd.snd.snd.fst ∧ s2660.snd.snd.snd.fst < (↑l0.length : Int))
  (Let (ix l0 s2660.snd.snd.snd.fst) fun (x2663 : MassData) =>
  Let (decide (x2663.Mass < (0 : Int))) fun (x2664 : Bool) =>
  if x2664 = true then
  some { Mass := (0 : Int), Center := { X := (0 : Int), Y := (0 : Int) : Vec }, Inertia := (0 : Int) : MassData }
  else
  Chk ((0 : Int) ≤ s2660.snd.snd.snd.fst ∧ s2660.snd.snd.snd.fst < (↑l0.length : Int))
  (Let (ix l0 s2660.snd.snd.snd.fst) fun (x2665 : MassData) =>
  Rx.Bind (caromref01_Saturate x2665.Mass) fun (r2666 : Int) =>
  Rx.Bind (caromref01_Add s2660.snd.snd.snd.snd.snd.Mass r2666) fun (r2667 : Int) =>
  Let (IntKind.i64.wrap (s2660.fst + r2666)) fun (x2668 : Int) =>
  Chk ((0 : Int) ≤ s2660.snd.snd.snd.fst ∧ s2660.snd.snd.snd.fst < (↑l0.length : Int))
  (Let (ix l0 s2660.snd.snd.snd.fst) fun (x2669 : MassData) =>
  Rx.Bind (caromref01_Saturate x2669.Center.X) fun (r2670 : Int) =>
  Let (IntKind.i64.wrap (r2666 * r2670)) fun (x2671 : Int) =>
  Let (IntKind.i64.wrap (s2660.snd.fst + x2671)) fun (x2672 : Int) =>
  Chk ((0 : Int) ≤ s2660.snd.snd.snd.fst ∧ s2660.snd.snd.snd.fst < (↑l0.length : Int))
  (Let (ix l0 s2660.snd.snd.snd.fst) fun (x2673 : MassData) =>
  Rx.Bind (caromref01_Saturate x2673.Center.Y) fun (r2674 : Int) =>
  Let (IntKind.i64.wrap (r2666 * r2674)) fun (x2675 : Int) =>
  Let (IntKind.i64.wrap (s2660.snd.snd.fst + x2675)) fun (x2676 : Int) =>
  Let (IntKind.i64.wrap (s2660.snd.snd.snd.fst + (1 : Int))) fun (x2677 : Int) =>
  rec2659
  (x2668, x2672, x2676, x2677, s2660.snd.snd.snd.snd.fst,
  { Mass := r2667, Center := s2660.snd.snd.snd.snd.snd.Center, Inertia := s2660.snd.snd.snd.snd.snd.Inertia : MassData })))))
  else
  Join
  (fun (v2678 : MassData) =>
  LOOP
  (fun (rec2679 : Int × MassData → Option MassData) (s2680 : Int × MassData) =>
  Let (↑l0.length : Int) fun (x2681 : Int) =>
  Let (decide (s2680.fst < x2681)) fun (x2682 : Bool) =>
  if x2682 = true then
  Chk ((0 : Int) ≤ s2680.fst ∧ s2680.fst < (↑l0.length : Int))
  (Let (ix l0 s2680.fst) fun (x2683 : MassData) =>
  Rx.Bind (caromref03_Sub x2683.Center s2680.snd.Center) fun (r2684 : Vec) =>
  Chk ((0 : Int) ≤ s2680.fst ∧ s2680.fst < (↑l0.length : Int))
  (Let (ix l0 s2680.fst) fun (x2685 : MassData) =>
  Rx.Bind (caromref01_Add s2680.snd.Inertia x2685.Inertia) fun (r2686 : Int) =>
  Chk ((0 : Int) ≤ s2680.fst ∧ s2680.fst < (↑l0.length : Int))
  (Let (ix l0 s2680.fst) fun (x2687 : MassData) =>
  Rx.Bind (caromref03_Dot r2684 r2684) fun (r2688 : Int) =>
  Rx.Bind (caromref01_Mul x2687.Mass r2688) fun (r2689 : Int) =>
  Rx.Bind (caromref01_Add r2686 r2689) fun (r2690 : Int) =>
  Let (IntKind.i64.wrap (s2680.fst + (1 : Int))) fun (x2691 : Int) =>
  rec2679 (x2691, { Mass := s2680.snd.Mass, Center := s2680.snd.Center, Inertia := r2690 : MassData }))))
  else some s2680.snd)
  fuel ((0 : Int), v2678))
  fun (j2692 : MassData → Option MassData) =>
  Let (decide (s2660.fst > (0 : Int))) fun (x2693 : Bool) =>
  if x2693 = true then
  Rx.Bind (caromref01_RoundDiv s2660.snd.fst s2660.fst) fun (r2694 : Int) =>
  Rx.Bind (caromref01_RoundDiv s2660.snd.snd.fst s2660.fst) fun (r2695 : Int) =>
  j2692
  { Mass := s2660.snd.snd.snd.snd.snd.Mass, Center := { X := r2694, Y := r2695 : Vec }, Inertia := s2660.snd.snd.snd.snd.snd.Inertia : MassData }
  else j2692 s2660.snd.snd.snd.snd.snd)
  fuel
  ((0 : Int), (0 : Int), (0 : Int), (0 : Int),
  { Mass := (0 : Int), Center := { X := (0 : Int), Y := (0 : Int) : Vec }, Inertia := (0 : Int) : MassData },
  { Mass := (0 : Int), Center := { X := (0 : Int), Y := (0 : Int) : Vec }, Inertia := (0 : Int) : MassData })

noncomputable def caromref13_OfFixtures (fixtures0 : (List Fixture)) : Option MassData :=
  Let (↑fixtures0.length : Int) fun (x2696 : Int) =>
  Let (decide (x2696 > (4 : Int))) fun (x2697 : Bool) =>
  if x2697 = true then
  some { Mass := (0 : Int), Center := { X := (0 : Int), Y := (0 : Int) : Vec }, Inertia := (0 : Int) : MassData }
  else
  LOOP
  (fun (rec2698 : List MassData × Int → Option MassData) (s2699 : List MassData × Int) =>
  Let (↑fixtures0.length : Int) fun (x2700 : Int) =>
  Let (decide (s2699.snd < x2700)) fun (x2701 : Bool) =>
  if x2701 = true then
  Join
  (fun (v2702 : List MassData) =>
  Let (IntKind.i64.wrap (s2699.snd + (1 : Int))) fun (x2703 : Int) => rec2698 (v2702, x2703))
  fun (j2704 : List MassData → Option MassData) =>
  Chk ((0 : Int) ≤ s2699.snd ∧ s2699.snd < (↑fixtures0.length : Int))
  (Let (ix fixtures0 s2699.snd) fun (x2705 : Fixture) =>
  Let (!x2705.Sensor) fun (x2706 : Bool) =>
  if x2706 = true then
  Chk ((0 : Int) ≤ s2699.snd ∧ s2699.snd < (↑fixtures0.length : Int))
  (Let (ix fixtures0 s2699.snd) fun (x2707 : Fixture) =>
  Chk ((0 : Int) ≤ s2699.snd ∧ s2699.snd < (↑fixtures0.length : Int))
  (Let (ix fixtures0 s2699.snd) fun (x2708 : Fixture) =>
  Rx.Bind (caromref13_OfShape x2707.Shape x2708.Density) fun (r2709 : MassData) =>
  Chk ((List.length s2699.fst + [r2709].length) * (32 : Nat) ≤ (140737488355328 : Nat))
  (Let (s2699.fst ++ [r2709]) fun (x2710 : List MassData) => j2704 x2710)))
  else j2704 s2699.fst)
  else Rx.Bind (caromref13_Combine s2699.fst) fun (r2711 : MassData) => some r2711)
  fuel ([], (0 : Int))

noncomputable def caromref23_MassData (b0 : Body) : Option MassData :=
  Rx.Bind (caromref13_OfFixtures b0.Fixtures) fun (r2712 : MassData) => some r2712

noncomputable def caromref02_Normalize (a0 : Int) : Option Int :=
  Let (a0.tmod (411776 : Int)) fun (x2713 : Int) =>
  Join
  (fun (v2714 : Int) =>
  Join (fun (v2715 : Int) => some v2715) fun (j2716 : Int → Option Int) =>
  Let (decide (v2714 < (-205888 : Int))) fun (x2717 : Bool) =>
  if x2717 = true then Let (IntKind.i64.wrap (v2714 + (411776 : Int))) fun (x2718 : Int) => j2716 x2718 else j2716 v2714)
  fun (j2719 : Int → Option Int) =>
  Let (decide (x2713 ≥ (205888 : Int))) fun (x2720 : Bool) =>
  if x2720 = true then Let (IntKind.i64.wrap (x2713 - (411776 : Int))) fun (x2721 : Int) => j2719 x2721 else j2719 x2713

noncomputable def caromref02_abs (x0 : Int) : Option Int :=
  Let (decide (x0 < (0 : Int))) fun (x2722 : Bool) =>
  if x2722 = true then Let (IntKind.i64.wrap ((0 : Int) - x0)) fun (x2723 : Int) => some x2723 else some x0

noncomputable def caromref01_Div (a0 : Int) (b1 : Int) : Option Int :=
  Rx.Bind (caromref01_Saturate a0) fun (r2724 : Int) =>
  Rx.Bind (caromref01_Saturate b1) fun (r2725 : Int) =>
  Let (r2725 == (0 : Int)) fun (x2726 : Bool) =>
  Let (decide (r2724 > (0 : Int))) fun (x2727 : Bool) =>
  Let (bif x2726 then x2727 else false) fun (x2728 : Bool) =>
  if x2728 = true then some (536870911 : Int)
  else
  Let (r2725 == (0 : Int)) fun (x2729 : Bool) =>
  Let (decide (r2724 < (0 : Int))) fun (x2730 : Bool) =>
  Let (bif x2729 then x2730 else false) fun (x2731 : Bool) =>
  if x2731 = true then some (-536870911 : Int)
  else
  Join
  (fun (v2732 : Int × Int) =>
  Let (IntKind.i64.wrap (v2732.fst * (65536 : Int))) fun (x2733 : Int) =>
  Rx.Bind (caromref01_RoundDiv x2733 v2732.snd) fun (r2734 : Int) =>
  Rx.Bind (caromref01_Saturate r2734) fun (r2735 : Int) => some r2735)
  fun (j2736 : Int × Int → Option Int) =>
  Let (decide (r2725 < (0 : Int))) fun (x2737 : Bool) =>
  if x2737 = true then
  Let (IntKind.i64.wrap ((0 : Int) - r2724)) fun (x2738 : Int) =>
  Let (IntKind.i64.wrap ((0 : Int) - r2725)) fun (x2739 : Int) => j2736 (x2738, x2739)
  else j2736 (r2724, r2725)

noncomputable def caromref02_firstQuadrant (x0 : Int) : Option Int :=
  Rx.Bind (caromref01_Div x0 (102944 : Int)) fun (r2740 : Int) =>
  Rx.Bind (caromref01_Mul r2740 r2740) fun (r2741 : Int) =>
  Rx.Bind (caromref01_Mul r2741 (4569 : Int)) fun (r2742 : Int) =>
  Rx.Bind (caromref01_Sub (41906 : Int) r2742) fun (r2743 : Int) =>
  Rx.Bind (caromref01_Mul r2741 r2743) fun (r2744 : Int) =>
  Rx.Bind (caromref01_Sub (102873 : Int) r2744) fun (r2745 : Int) =>
  Rx.Bind (caromref01_Mul r2740 r2745) fun (r2746 : Int) => some r2746

noncomputable def caromref02_Sin (a0 : Int) : Option Int :=
  Rx.Bind (caromref02_Normalize a0) fun (r2747 : Int) =>
  Rx.Bind (caromref02_abs r2747) fun (r2748 : Int) =>
  Join
  (fun (v2749 : Int) =>
  Let (decide (r2747 < (0 : Int))) fun (x2750 : Bool) =>
  if x2750 = true then
  Rx.Bind (caromref02_firstQuadrant v2749) fun (r2751 : Int) =>
  Let (IntKind.i64.wrap ((0 : Int) - r2751)) fun (x2752 : Int) => some x2752
  else Rx.Bind (caromref02_firstQuadrant v2749) fun (r2753 : Int) => some r2753)
  fun (j2754 : Int → Option Int) =>
  Let (decide (r2748 > (102944 : Int))) fun (x2755 : Bool) =>
  if x2755 = true then Let (IntKind.i64.wrap ((205888 : Int) - r2748)) fun (x2756 : Int) => j2754 x2756 else j2754 r2748

noncomputable def caromref02_Cos (a0 : Int) : Option Int :=
  Rx.Bind (caromref02_Normalize a0) fun (r2757 : Int) =>
  Rx.Bind (caromref02_abs r2757) fun (r2758 : Int) =>
  Let (IntKind.i64.wrap ((102944 : Int) - r2758)) fun (x2759 : Int) =>
  Rx.Bind (caromref02_Sin x2759) fun (r2760 : Int) => some r2760

noncomputable def caromref02_Rot (a0 : Int) : Option Rot :=
  Rx.Bind (caromref02_Cos a0) fun (r2761 : Int) =>
  Rx.Bind (caromref02_Sin a0) fun (r2762 : Int) =>
  Let (IntKind.i64.wrap (r2761 * r2761)) fun (x2763 : Int) =>
  Let (IntKind.i64.wrap (r2762 * r2762)) fun (x2764 : Int) =>
  Let (IntKind.i64.wrap (x2763 + x2764)) fun (x2765 : Int) =>
  Rx.Bind (caromref01_Isqrt x2765) fun (r2766 : Int) =>
  Rx.Bind (caromref01_Div r2761 r2766) fun (r2767 : Int) =>
  Rx.Bind (caromref01_Div r2762 r2766) fun (r2768 : Int) => some { Cos := r2767, Sin := r2768 : Rot }

noncomputable def caromref03_Rotate (r0 : Rot) (v1 : Vec) : Option Vec :=
  Rx.Bind (caromref01_Saturate r0.Cos) fun (r2769 : Int) =>
  Rx.Bind (caromref01_Saturate r0.Sin) fun (r2770 : Int) =>
  Rx.Bind (caromref03_Saturated v1) fun (r2771 : Vec) =>
  Let (IntKind.i64.wrap (r2769 * r2771.X)) fun (x2772 : Int) =>
  Let (IntKind.i64.wrap (r2770 * r2771.Y)) fun (x2773 : Int) =>
  Let (IntKind.i64.wrap (x2772 - x2773)) fun (x2774 : Int) =>
  Rx.Bind (caromref01_RoundDiv x2774 (65536 : Int)) fun (r2775 : Int) =>
  Let (IntKind.i64.wrap (r2770 * r2771.X)) fun (x2776 : Int) =>
  Let (IntKind.i64.wrap (r2769 * r2771.Y)) fun (x2777 : Int) =>
  Let (IntKind.i64.wrap (x2776 + x2777)) fun (x2778 : Int) =>
  Rx.Bind (caromref01_RoundDiv x2778 (65536 : Int)) fun (r2779 : Int) =>
  Rx.Bind (caromref03_Saturated { X := r2775, Y := r2779 : Vec }) fun (r2780 : Vec) => some r2780

noncomputable def caromref03_Add (a0 : Vec) (b1 : Vec) : Option Vec :=
  Rx.Bind (caromref01_Add a0.X b1.X) fun (r2781 : Int) =>
  Rx.Bind (caromref01_Add a0.Y b1.Y) fun (r2782 : Int) => some { X := r2781, Y := r2782 : Vec }

noncomputable def caromref04_Apply (p0 : Transform) (v1 : Vec) : Option Vec :=
  Rx.Bind (caromref02_Rot p0.Angle) fun (r2783 : Rot) =>
  Rx.Bind (caromref03_Rotate r2783 v1) fun (r2784 : Vec) =>
  Rx.Bind (caromref03_Add r2784 p0.Position) fun (r2785 : Vec) => some r2785

noncomputable def caromref23_WorldCenter (b0 : Body) : Option Vec :=
  Rx.Bind (caromref23_MassData b0) fun (r2786 : MassData) =>
  Rx.Bind (caromref04_Apply b0.Transform r2786.Center) fun (r2787 : Vec) => some r2787

noncomputable def caromref13_Inverse (h0 : MassData) (kind1 : Int) (fixedRotation2 : Bool) : Option (Int × Int) :=
  Let (kind1 != (3 : Int)) fun (x2788 : Bool) =>
  if x2788 = true then some ((0 : Int), (0 : Int))
  else
  Join
  (fun (v2789 : Int) =>
  Join (fun (v2790 : Int) => some (v2789, v2790)) fun (j2791 : Int → Option (Int × Int)) =>
  Let (!fixedRotation2) fun (x2792 : Bool) =>
  Let (decide (h0.Inertia ≥ (1 : Int))) fun (x2793 : Bool) =>
  Let (bif x2792 then x2793 else false) fun (x2794 : Bool) =>
  if x2794 = true then Rx.Bind (caromref01_Div (65536 : Int) h0.Inertia) fun (r2795 : Int) => j2791 r2795
  else j2791 (0 : Int))
  fun (j2796 : Int → Option (Int × Int)) =>
  Let (decide (h0.Mass ≥ (1 : Int))) fun (x2797 : Bool) =>
  if x2797 = true then Rx.Bind (caromref01_Div (65536 : Int) h0.Mass) fun (r2798 : Int) => j2796 r2798
  else j2796 (65536 : Int)

noncomputable def caromref23_SolverBody (b0 : Body) : Option SolverBody :=
  Rx.Bind (caromref23_MassData b0) fun (r2799 : MassData) =>
  Rx.Bind (caromref13_Inverse r2799 b0.Kind b0.FixedRotation) fun (r2800 : Int × Int) =>
  some
  { Velocity := b0.Velocity, AngularVelocity := b0.AngularVelocity, InvMass := r2800.fst, InvInertia := r2800.snd : SolverBody }

noncomputable def caromref03_Scale (v0 : Vec) (k1 : Int) : Option Vec :=
  Rx.Bind (caromref01_Mul v0.X k1) fun (r2801 : Int) =>
  Rx.Bind (caromref01_Mul v0.Y k1) fun (r2802 : Int) => some { X := r2801, Y := r2802 : Vec }

noncomputable def caromref01_Clamp (x0 : Int) (low1 : Int) (high2 : Int) : Option Int :=
  Let (decide (low1 > high2)) fun (x2803 : Bool) =>
  Let (decide (x0 < low1)) fun (x2804 : Bool) =>
  Let (bif x2803 then true else x2804) fun (x2805 : Bool) =>
  if x2805 = true then some low1
  else Let (decide (x0 > high2)) fun (x2806 : Bool) => if x2806 = true then some high2 else some x0

noncomputable def caromref23_ClampVelocity (b0 : Body) : Option Body :=
  Rx.Bind (caromref01_Clamp b0.Velocity.X (-16777216 : Int) (16777216 : Int)) fun (r2807 : Int) =>
  Rx.Bind (caromref01_Clamp b0.Velocity.Y (-16777216 : Int) (16777216 : Int)) fun (r2808 : Int) =>
  Rx.Bind (caromref01_Clamp b0.AngularVelocity (-4194304 : Int) (4194304 : Int)) fun (r2809 : Int) =>
  some
  { ID := b0.ID, Kind := b0.Kind, Transform := b0.Transform, Velocity := { X := r2807, Y := r2808 : Vec }, AngularVelocity := r2809, Force := b0.Force, Torque := b0.Torque, LinearDamping := b0.LinearDamping, AngularDamping := b0.AngularDamping, GravityScale := b0.GravityScale, Bullet := b0.Bullet, FixedRotation := b0.FixedRotation, NoSleep := b0.NoSleep, Asleep := b0.Asleep, IdleSteps := b0.IdleSteps, Fixtures := b0.Fixtures : Body }

noncomputable def caromref23_wake (b0 : Body) : Option Body :=
  some
  { ID := b0.ID, Kind := b0.Kind, Transform := b0.Transform, Velocity := b0.Velocity, AngularVelocity := b0.AngularVelocity, Force := b0.Force, Torque := b0.Torque, LinearDamping := b0.LinearDamping, AngularDamping := b0.AngularDamping, GravityScale := b0.GravityScale, Bullet := b0.Bullet, FixedRotation := b0.FixedRotation, NoSleep := b0.NoSleep, Asleep := false, IdleSteps := (0 : Int), Fixtures := b0.Fixtures : Body }

noncomputable def caromref23_ApplyImpulse (b0 : Body) (point1 : Vec) (impulse2 : Vec) : Option Body :=
  Let (b0.Kind != (3 : Int)) fun (x2810 : Bool) =>
  if x2810 = true then some b0
  else
  Rx.Bind (caromref23_SolverBody b0) fun (r2811 : SolverBody) =>
  Rx.Bind (caromref23_WorldCenter b0) fun (r2812 : Vec) =>
  Rx.Bind (caromref03_Sub point1 r2812) fun (r2813 : Vec) =>
  Rx.Bind (caromref03_Cross r2813 impulse2) fun (r2814 : Int) =>
  Rx.Bind (caromref01_Mul r2814 r2811.InvInertia) fun (r2815 : Int) =>
  Rx.Bind (caromref03_Scale impulse2 r2811.InvMass) fun (r2816 : Vec) =>
  Rx.Bind (caromref03_Add b0.Velocity r2816) fun (r2817 : Vec) =>
  Rx.Bind (caromref01_Add b0.AngularVelocity r2815) fun (r2818 : Int) =>
  Rx.Bind
  (caromref23_ClampVelocity
  { ID := b0.ID, Kind := b0.Kind, Transform := b0.Transform, Velocity := r2817, AngularVelocity := r2818, Force := b0.Force, Torque := b0.Torque, LinearDamping := b0.LinearDamping, AngularDamping := b0.AngularDamping, GravityScale := b0.GravityScale, Bullet := b0.Bullet, FixedRotation := b0.FixedRotation, NoSleep := b0.NoSleep, Asleep := b0.Asleep, IdleSteps := b0.IdleSteps, Fixtures := b0.Fixtures : Body })
  fun (r2819 : Body) => Rx.Bind (caromref23_wake r2819) fun (r2820 : Body) => some r2820

noncomputable def caromref23_ApplyAngularImpulse (b0 : Body) (impulse1 : Int) : Option Body :=
  Let (b0.Kind != (3 : Int)) fun (x2821 : Bool) =>
  if x2821 = true then some b0
  else
  Rx.Bind (caromref23_SolverBody b0) fun (r2822 : SolverBody) =>
  Rx.Bind (caromref01_Mul impulse1 r2822.InvInertia) fun (r2823 : Int) =>
  Rx.Bind (caromref01_Add b0.AngularVelocity r2823) fun (r2824 : Int) =>
  Rx.Bind
  (caromref23_ClampVelocity
  { ID := b0.ID, Kind := b0.Kind, Transform := b0.Transform, Velocity := b0.Velocity, AngularVelocity := r2824, Force := b0.Force, Torque := b0.Torque, LinearDamping := b0.LinearDamping, AngularDamping := b0.AngularDamping, GravityScale := b0.GravityScale, Bullet := b0.Bullet, FixedRotation := b0.FixedRotation, NoSleep := b0.NoSleep, Asleep := b0.Asleep, IdleSteps := b0.IdleSteps, Fixtures := b0.Fixtures : Body })
  fun (r2825 : Body) => Rx.Bind (caromref23_wake r2825) fun (r2826 : Body) => some r2826

noncomputable def caromref43_body (w0 : World_) (x1 : Input) : Option (World_ × Int) :=
  Rx.Bind (caromref25_FindBody w0 x1.ID) fun (r2827 : Int) =>
  Let (decide (r2827 < (0 : Int))) fun (x2828 : Bool) =>
  if x2828 = true then
  some
  ({ Settings := { TimeStep := (0 : Int), Gravity := { X := (0 : Int), Y := (0 : Int) : Vec }, Iterations := (0 : Int), SleepSteps := (0 : Int) : Settings }, Bodies := [], Joints := [], Contacts := [], Overlaps := [], NextID := (0 : Int), Frame := (0 : Int) : World_ },
  (8 : Int))
  else
  Chk ((0 : Int) ≤ r2827 ∧ r2827 < (↑w0.Bodies.length : Int))
  (Let (ix w0.Bodies r2827) fun (x2829 : Body) =>
  Rx.Bind (caromref23_Clone x2829) fun (r2830 : Body) =>
  Let (x1.Kind == (5 : Int)) fun (x2831 : Bool) =>
  Let (r2830.Kind == (1 : Int)) fun (x2832 : Bool) =>
  Let (bif x2831 then x2832 else false) fun (x2833 : Bool) =>
  Let (x1.Kind != (5 : Int)) fun (x2834 : Bool) =>
  Let (x1.Kind != (4 : Int)) fun (x2835 : Bool) =>
  Let (bif x2834 then x2835 else false) fun (x2836 : Bool) =>
  Let (r2830.Kind != (3 : Int)) fun (x2837 : Bool) =>
  Let (bif x2836 then x2837 else false) fun (x2838 : Bool) =>
  Let (bif x2833 then true else x2838) fun (x2839 : Bool) =>
  if x2839 = true then
  some
  ({ Settings := { TimeStep := (0 : Int), Gravity := { X := (0 : Int), Y := (0 : Int) : Vec }, Iterations := (0 : Int), SleepSteps := (0 : Int) : Settings }, Bodies := [], Joints := [], Contacts := [], Overlaps := [], NextID := (0 : Int), Frame := (0 : Int) : World_ },
  (10 : Int))
  else
  Join
  (fun (v2840 : World_ × Body) =>
  Rx.Bind (caromref25_Clone w0) fun (r2841 : World_) =>
  Chk ((0 : Int) ≤ r2827 ∧ r2827 < (↑r2841.Bodies.length : Int))
  (Chk ((0 : Int) ≤ r2827 ∧ r2827 < (↑r2841.Bodies.length : Int))
  (Let (r2841.Bodies.set r2827.toNat v2840.snd) fun (x2842 : List Body) =>
  Rx.Bind
  (caromref25_WakeBody
  { Settings := r2841.Settings, Bodies := x2842, Joints := r2841.Joints, Contacts := r2841.Contacts, Overlaps := r2841.Overlaps, NextID := r2841.NextID, Frame := r2841.Frame : World_ }
  x1.ID)
  fun (r2843 : World_) => some (r2843, (0 : Int)))))
  fun (j2844 : World_ × Body → Option (World_ × Int)) =>
  Let (x1.Kind == (1 : Int)) fun (x2845 : Bool) =>
  if x2845 = true then
  Rx.Bind (caromref23_WorldCenter r2830) fun (r2846 : Vec) =>
  Rx.Bind (caromref23_ApplyImpulse r2830 r2846 x1.Vec) fun (r2847 : Body) =>
  j2844
  ({ Settings := { TimeStep := (0 : Int), Gravity := { X := (0 : Int), Y := (0 : Int) : Vec }, Iterations := (0 : Int), SleepSteps := (0 : Int) : Settings }, Bodies := [], Joints := [], Contacts := [], Overlaps := [], NextID := (0 : Int), Frame := (0 : Int) : World_ },
  r2847)
  else
  Let (x1.Kind == (2 : Int)) fun (x2848 : Bool) =>
  if x2848 = true then
  Rx.Bind (caromref03_Add r2830.Force x1.Vec) fun (r2849 : Vec) =>
  j2844
  ({ Settings := { TimeStep := (0 : Int), Gravity := { X := (0 : Int), Y := (0 : Int) : Vec }, Iterations := (0 : Int), SleepSteps := (0 : Int) : Settings }, Bodies := [], Joints := [], Contacts := [], Overlaps := [], NextID := (0 : Int), Frame := (0 : Int) : World_ },
  { ID := r2830.ID, Kind := r2830.Kind, Transform := r2830.Transform, Velocity := r2830.Velocity, AngularVelocity := r2830.AngularVelocity, Force := r2849, Torque := r2830.Torque, LinearDamping := r2830.LinearDamping, AngularDamping := r2830.AngularDamping, GravityScale := r2830.GravityScale, Bullet := r2830.Bullet, FixedRotation := r2830.FixedRotation, NoSleep := r2830.NoSleep, Asleep := r2830.Asleep, IdleSteps := r2830.IdleSteps, Fixtures := r2830.Fixtures : Body })
  else
  Let (x1.Kind == (3 : Int)) fun (x2850 : Bool) =>
  if x2850 = true then
  Rx.Bind (caromref23_ApplyAngularImpulse r2830 x1.Value) fun (r2851 : Body) =>
  j2844
  ({ Settings := { TimeStep := (0 : Int), Gravity := { X := (0 : Int), Y := (0 : Int) : Vec }, Iterations := (0 : Int), SleepSteps := (0 : Int) : Settings }, Bodies := [], Joints := [], Contacts := [], Overlaps := [], NextID := (0 : Int), Frame := (0 : Int) : World_ },
  r2851)
  else
  Let (x1.Kind == (4 : Int)) fun (x2852 : Bool) =>
  if x2852 = true then
  Rx.Bind (caromref04_Valid { Position := x1.Vec, Angle := x1.Value : Transform }) fun (r2853 : Bool) =>
  Let (!r2853) fun (x2854 : Bool) =>
  if x2854 = true then
  some
  ({ Settings := { TimeStep := (0 : Int), Gravity := { X := (0 : Int), Y := (0 : Int) : Vec }, Iterations := (0 : Int), SleepSteps := (0 : Int) : Settings }, Bodies := [], Joints := [], Contacts := [], Overlaps := [], NextID := (0 : Int), Frame := (0 : Int) : World_ },
  (6 : Int))
  else
  j2844
  ({ Settings := { TimeStep := (0 : Int), Gravity := { X := (0 : Int), Y := (0 : Int) : Vec }, Iterations := (0 : Int), SleepSteps := (0 : Int) : Settings }, Bodies := [], Joints := [], Contacts := [], Overlaps := [], NextID := (0 : Int), Frame := (0 : Int) : World_ },
  { ID := r2830.ID, Kind := r2830.Kind, Transform := { Position := x1.Vec, Angle := x1.Value : Transform }, Velocity := r2830.Velocity, AngularVelocity := r2830.AngularVelocity, Force := r2830.Force, Torque := r2830.Torque, LinearDamping := r2830.LinearDamping, AngularDamping := r2830.AngularDamping, GravityScale := r2830.GravityScale, Bullet := r2830.Bullet, FixedRotation := r2830.FixedRotation, NoSleep := r2830.NoSleep, Asleep := r2830.Asleep, IdleSteps := r2830.IdleSteps, Fixtures := r2830.Fixtures : Body })
  else
  Let (x1.Kind == (5 : Int)) fun (x2855 : Bool) =>
  if x2855 = true then
  Rx.Bind
  (caromref23_ClampVelocity
  { ID := r2830.ID, Kind := r2830.Kind, Transform := r2830.Transform, Velocity := x1.Vec, AngularVelocity := x1.Value, Force := r2830.Force, Torque := r2830.Torque, LinearDamping := r2830.LinearDamping, AngularDamping := r2830.AngularDamping, GravityScale := r2830.GravityScale, Bullet := r2830.Bullet, FixedRotation := r2830.FixedRotation, NoSleep := r2830.NoSleep, Asleep := r2830.Asleep, IdleSteps := r2830.IdleSteps, Fixtures := r2830.Fixtures : Body })
  fun (r2856 : Body) =>
  j2844
  ({ Settings := { TimeStep := (0 : Int), Gravity := { X := (0 : Int), Y := (0 : Int) : Vec }, Iterations := (0 : Int), SleepSteps := (0 : Int) : Settings }, Bodies := [], Joints := [], Contacts := [], Overlaps := [], NextID := (0 : Int), Frame := (0 : Int) : World_ },
  r2856)
  else
  j2844
  ({ Settings := { TimeStep := (0 : Int), Gravity := { X := (0 : Int), Y := (0 : Int) : Vec }, Iterations := (0 : Int), SleepSteps := (0 : Int) : Settings }, Bodies := [], Joints := [], Contacts := [], Overlaps := [], NextID := (0 : Int), Frame := (0 : Int) : World_ },
  r2830))

noncomputable def caromref43_Apply (w0 : World_) (x1 : Input) : Option (World_ × Int × Int) :=
  Rx.Bind (caromref25_Validate w0) fun (r2857 : Int) =>
  Let (r2857 != (0 : Int)) fun (x2858 : Bool) =>
  if x2858 = true then
  some
  ({ Settings := { TimeStep := (0 : Int), Gravity := { X := (0 : Int), Y := (0 : Int) : Vec }, Iterations := (0 : Int), SleepSteps := (0 : Int) : Settings }, Bodies := [], Joints := [], Contacts := [], Overlaps := [], NextID := (0 : Int), Frame := (0 : Int) : World_ },
  (0 : Int), (18 : Int))
  else
  Rx.Bind (caromref43_Validate x1) fun (r2859 : Int) =>
  Let (r2859 != (0 : Int)) fun (x2860 : Bool) =>
  if x2860 = true then
  some
  ({ Settings := { TimeStep := (0 : Int), Gravity := { X := (0 : Int), Y := (0 : Int) : Vec }, Iterations := (0 : Int), SleepSteps := (0 : Int) : Settings }, Bodies := [], Joints := [], Contacts := [], Overlaps := [], NextID := (0 : Int), Frame := (0 : Int) : World_ },
  (0 : Int), r2859)
  else
  Join (fun (v2861 : Int × World_ × World_) => some (v2861.snd.snd, (0 : Int), v2861.fst))
  fun (j2862 : Int × World_ × World_ → Option (World_ × Int × Int)) =>
  Let (x1.Kind == (9 : Int)) fun (x2863 : Bool) =>
  if x2863 = true then Rx.Bind (caromref25_AddBody w0 x1.Body) fun (r2864 : World_ × Int × Int) => some r2864
  else
  Let (x1.Kind == (11 : Int)) fun (x2865 : Bool) =>
  if x2865 = true then Rx.Bind (caromref25_AddJoint w0 x1.Joint) fun (r2866 : World_ × Int × Int) => some r2866
  else
  Let (x1.Kind == (10 : Int)) fun (x2867 : Bool) =>
  if x2867 = true then
  Rx.Bind (caromref25_RemoveBody w0 x1.ID) fun (r2868 : World_ × Int) =>
  j2862
  (r2868.snd,
  { Settings := { TimeStep := (0 : Int), Gravity := { X := (0 : Int), Y := (0 : Int) : Vec }, Iterations := (0 : Int), SleepSteps := (0 : Int) : Settings }, Bodies := [], Joints := [], Contacts := [], Overlaps := [], NextID := (0 : Int), Frame := (0 : Int) : World_ },
  r2868.fst)
  else
  Let (x1.Kind == (12 : Int)) fun (x2869 : Bool) =>
  if x2869 = true then
  Rx.Bind (caromref25_RemoveJoint w0 x1.ID) fun (r2870 : World_ × Int) =>
  j2862
  (r2870.snd,
  { Settings := { TimeStep := (0 : Int), Gravity := { X := (0 : Int), Y := (0 : Int) : Vec }, Iterations := (0 : Int), SleepSteps := (0 : Int) : Settings }, Bodies := [], Joints := [], Contacts := [], Overlaps := [], NextID := (0 : Int), Frame := (0 : Int) : World_ },
  r2870.fst)
  else
  Join
  (fun (v2871 : Bool) =>
  if v2871 = true then
  Rx.Bind (caromref43_joint w0 x1) fun (r2872 : World_ × Int) =>
  j2862
  (r2872.snd,
  { Settings := { TimeStep := (0 : Int), Gravity := { X := (0 : Int), Y := (0 : Int) : Vec }, Iterations := (0 : Int), SleepSteps := (0 : Int) : Settings }, Bodies := [], Joints := [], Contacts := [], Overlaps := [], NextID := (0 : Int), Frame := (0 : Int) : World_ },
  r2872.fst)
  else
  Rx.Bind (caromref43_body w0 x1) fun (r2873 : World_ × Int) =>
  j2862
  (r2873.snd,
  { Settings := { TimeStep := (0 : Int), Gravity := { X := (0 : Int), Y := (0 : Int) : Vec }, Iterations := (0 : Int), SleepSteps := (0 : Int) : Settings }, Bodies := [], Joints := [], Contacts := [], Overlaps := [], NextID := (0 : Int), Frame := (0 : Int) : World_ },
  r2873.fst))
  fun (j2874 : Bool → Option (World_ × Int × Int)) =>
  Let (x1.Kind == (7 : Int)) fun (x2875 : Bool) =>
  if x2875 = true then j2874 x2875 else Let (x1.Kind == (8 : Int)) fun (x2876 : Bool) => j2874 x2876

noncomputable def caromref22_Keys (a0 : (List PairKey)) (b1 : (List PairKey)) : Option Bool :=
  Let (↑a0.length : Int) fun (x2877 : Int) =>
  Let (↑b1.length : Int) fun (x2878 : Int) =>
  Let (x2877 != x2878) fun (x2879 : Bool) =>
  if x2879 = true then some false
  else
  LOOP
  (fun (rec2880 : Int → Option Bool) (s2881 : Int) =>
  Let (↑a0.length : Int) fun (x2882 : Int) =>
  Let (decide (s2881 < x2882)) fun (x2883 : Bool) =>
  if x2883 = true then
  Chk ((0 : Int) ≤ s2881 ∧ s2881 < (↑a0.length : Int))
  (Let (ix a0 s2881) fun (x2884 : PairKey) =>
  Chk ((0 : Int) ≤ s2881 ∧ s2881 < (↑b1.length : Int))
  (Let (ix b1 s2881) fun (x2885 : PairKey) =>
  Let
  (!(decide (x2884.BodyA = x2885.BodyA) &&
  (decide (x2884.FixtureA = x2885.FixtureA) &&
  (decide (x2884.BodyB = x2885.BodyB) && decide (x2884.FixtureB = x2885.FixtureB)))))
  fun (x2886 : Bool) =>
  if x2886 = true then some false else Let (IntKind.i64.wrap (s2881 + (1 : Int))) fun (x2887 : Int) => rec2880 x2887))
  else some true)
  fuel (0 : Int)

noncomputable def caromref16_Equal (a0 : Manifold) (b1 : Manifold) : Option Bool :=
  Let (!(decide (a0.Normal.X = b1.Normal.X) && decide (a0.Normal.Y = b1.Normal.Y))) fun (x2888 : Bool) =>
  Let (↑a0.Points.length : Int) fun (x2889 : Int) =>
  Let (↑b1.Points.length : Int) fun (x2890 : Int) =>
  Let (x2889 != x2890) fun (x2891 : Bool) =>
  Let (bif x2888 then true else x2891) fun (x2892 : Bool) =>
  if x2892 = true then some false
  else
  LOOP
  (fun (rec2893 : Int → Option Bool) (s2894 : Int) =>
  Let (↑a0.Points.length : Int) fun (x2895 : Int) =>
  Let (decide (s2894 < x2895)) fun (x2896 : Bool) =>
  if x2896 = true then
  Chk ((0 : Int) ≤ s2894 ∧ s2894 < (↑a0.Points.length : Int))
  (Let (ix a0.Points s2894) fun (x2897 : ContactPoint) =>
  Chk ((0 : Int) ≤ s2894 ∧ s2894 < (↑b1.Points.length : Int))
  (Let (ix b1.Points s2894) fun (x2898 : ContactPoint) =>
  Let
  (!(decide (x2897.Point.X = x2898.Point.X) && decide (x2897.Point.Y = x2898.Point.Y) &&
  (decide (x2897.Separation = x2898.Separation) &&
  (decide (x2897.ID = x2898.ID) &&
  (decide (x2897.NormalImpulse = x2898.NormalImpulse) && decide (x2897.TangentImpulse = x2898.TangentImpulse))))))
  fun (x2899 : Bool) =>
  if x2899 = true then some false else Let (IntKind.i64.wrap (s2894 + (1 : Int))) fun (x2900 : Int) => rec2893 x2900))
  else some true)
  fuel (0 : Int)

noncomputable def caromref25_Equal (a0 : World_) (b1 : World_) : Option Bool :=
  Let
  (!(decide (a0.Settings.TimeStep = b1.Settings.TimeStep) &&
  (decide (a0.Settings.Gravity.X = b1.Settings.Gravity.X) && decide (a0.Settings.Gravity.Y = b1.Settings.Gravity.Y) &&
  (decide (a0.Settings.Iterations = b1.Settings.Iterations) &&
  decide (a0.Settings.SleepSteps = b1.Settings.SleepSteps)))))
  fun (x2901 : Bool) =>
  Let (a0.NextID != b1.NextID) fun (x2902 : Bool) =>
  Let (bif x2901 then true else x2902) fun (x2903 : Bool) =>
  Let (a0.Frame != b1.Frame) fun (x2904 : Bool) =>
  Let (bif x2903 then true else x2904) fun (x2905 : Bool) =>
  Let (↑a0.Bodies.length : Int) fun (x2906 : Int) =>
  Let (↑b1.Bodies.length : Int) fun (x2907 : Int) =>
  Let (x2906 != x2907) fun (x2908 : Bool) =>
  Let (bif x2905 then true else x2908) fun (x2909 : Bool) =>
  Let (↑a0.Joints.length : Int) fun (x2910 : Int) =>
  Let (↑b1.Joints.length : Int) fun (x2911 : Int) =>
  Let (x2910 != x2911) fun (x2912 : Bool) =>
  Let (bif x2909 then true else x2912) fun (x2913 : Bool) =>
  Let (↑a0.Contacts.length : Int) fun (x2914 : Int) =>
  Let (↑b1.Contacts.length : Int) fun (x2915 : Int) =>
  Let (x2914 != x2915) fun (x2916 : Bool) =>
  Let (bif x2913 then true else x2916) fun (x2917 : Bool) =>
  Rx.Bind (if (x2917 == false) = true then caromref22_Keys a0.Overlaps b1.Overlaps else some default)
  fun (r2918 : Bool) =>
  Let (!r2918) fun (x2919 : Bool) =>
  Let (bif x2917 then true else x2919) fun (x2920 : Bool) =>
  if x2920 = true then some false
  else
  LOOP
  (fun (rec2921 : Int → Option Bool) (s2922 : Int) =>
  Let (↑a0.Bodies.length : Int) fun (x2923 : Int) =>
  Let (decide (s2922 < x2923)) fun (x2924 : Bool) =>
  if x2924 = true then
  Chk ((0 : Int) ≤ s2922 ∧ s2922 < (↑a0.Bodies.length : Int))
  (Let (ix a0.Bodies s2922) fun (x2925 : Body) =>
  Chk ((0 : Int) ≤ s2922 ∧ s2922 < (↑b1.Bodies.length : Int))
  (Let (ix b1.Bodies s2922) fun (x2926 : Body) =>
  Rx.Bind (caromref23_Equal x2925 x2926) fun (r2927 : Bool) =>
  Let (!r2927) fun (x2928 : Bool) =>
  if x2928 = true then some false else Let (IntKind.i64.wrap (s2922 + (1 : Int))) fun (x2929 : Int) => rec2921 x2929))
  else
  LOOP
  (fun (rec2930 : Int → Option Bool) (s2931 : Int) =>
  Let (↑a0.Joints.length : Int) fun (x2932 : Int) =>
  Let (decide (s2931 < x2932)) fun (x2933 : Bool) =>
  if x2933 = true then
  Chk ((0 : Int) ≤ s2931 ∧ s2931 < (↑a0.Joints.length : Int))
  (Let (ix a0.Joints s2931) fun (x2934 : Joint) =>
  Chk ((0 : Int) ≤ s2931 ∧ s2931 < (↑b1.Joints.length : Int))
  (Let (ix b1.Joints s2931) fun (x2935 : Joint) =>
  Let
  (!(decide (x2934.ID = x2935.ID) &&
  (decide (x2934.Kind = x2935.Kind) &&
  (decide (x2934.BodyA = x2935.BodyA) &&
  (decide (x2934.BodyB = x2935.BodyB) &&
  (decide (x2934.AnchorA.X = x2935.AnchorA.X) && decide (x2934.AnchorA.Y = x2935.AnchorA.Y) &&
  (decide (x2934.AnchorB.X = x2935.AnchorB.X) && decide (x2934.AnchorB.Y = x2935.AnchorB.Y) &&
  (decide (x2934.Axis.X = x2935.Axis.X) && decide (x2934.Axis.Y = x2935.Axis.Y) &&
  (decide (x2934.ReferenceAngle = x2935.ReferenceAngle) &&
  (decide (x2934.EnableLimit = x2935.EnableLimit) &&
  (decide (x2934.Lower = x2935.Lower) &&
  (decide (x2934.Upper = x2935.Upper) &&
  (decide (x2934.EnableMotor = x2935.EnableMotor) &&
  (decide (x2934.MotorSpeed = x2935.MotorSpeed) &&
  (decide (x2934.MaxForce = x2935.MaxForce) &&
  (decide (x2934.Softness = x2935.Softness) &&
  (decide (x2934.BreakForce = x2935.BreakForce) &&
  (decide (x2934.CollideConnected = x2935.CollideConnected) &&
  (decide (x2934.Impulses.fst = x2935.Impulses.fst) &&
  (decide (x2934.Impulses.snd.fst = x2935.Impulses.snd.fst) &&
  (decide (x2934.Impulses.snd.snd.fst = x2935.Impulses.snd.snd.fst) &&
  decide (x2934.Impulses.snd.snd.snd = x2935.Impulses.snd.snd.snd))))))))))))))))))))))
  fun (x2936 : Bool) =>
  if x2936 = true then some false else Let (IntKind.i64.wrap (s2931 + (1 : Int))) fun (x2937 : Int) => rec2930 x2937))
  else
  LOOP
  (fun (rec2938 : Int → Option Bool) (s2939 : Int) =>
  Let (↑a0.Contacts.length : Int) fun (x2940 : Int) =>
  Let (decide (s2939 < x2940)) fun (x2941 : Bool) =>
  if x2941 = true then
  Chk ((0 : Int) ≤ s2939 ∧ s2939 < (↑a0.Contacts.length : Int))
  (Let (ix a0.Contacts s2939) fun (x2942 : Contact) =>
  Chk ((0 : Int) ≤ s2939 ∧ s2939 < (↑b1.Contacts.length : Int))
  (Let (ix b1.Contacts s2939) fun (x2943 : Contact) =>
  Let
  (!(decide (x2942.Key.BodyA = x2943.Key.BodyA) &&
  (decide (x2942.Key.FixtureA = x2943.Key.FixtureA) &&
  (decide (x2942.Key.BodyB = x2943.Key.BodyB) && decide (x2942.Key.FixtureB = x2943.Key.FixtureB)))))
  fun (x2944 : Bool) =>
  Chk ((x2944 == false) = true → (0 : Int) ≤ s2939 ∧ s2939 < (↑a0.Contacts.length : Int))
  (Let (ix a0.Contacts s2939) fun (x2945 : Contact) =>
  Chk ((x2944 == false) = true → (0 : Int) ≤ s2939 ∧ s2939 < (↑b1.Contacts.length : Int))
  (Let (ix b1.Contacts s2939) fun (x2946 : Contact) =>
  Rx.Bind (if (x2944 == false) = true then caromref16_Equal x2945.Manifold x2946.Manifold else some default)
  fun (r2947 : Bool) =>
  Let (!r2947) fun (x2948 : Bool) =>
  Let (bif x2944 then true else x2948) fun (x2949 : Bool) =>
  if x2949 = true then some false else Let (IntKind.i64.wrap (s2939 + (1 : Int))) fun (x2950 : Int) => rec2938 x2950))))
  else some true)
  fuel (0 : Int))
  fuel (0 : Int))
  fuel (0 : Int)

noncomputable def caromlaw43_InputApply (w0 : World_) (x1 : Input) : Option Bool :=
  Rx.Bind (caromref25_Few w0) fun (r2951 : Bool) =>
  Let (!r2951) fun (x2952 : Bool) =>
  Rx.Bind (if (x2952 == false) = true then caromlaw43_few [x1] else some default) fun (r2953 : Bool) =>
  Let (!r2953) fun (x2954 : Bool) =>
  Let (bif x2952 then true else x2954) fun (x2955 : Bool) =>
  if x2955 = true then Rx.Bind caromlaw43_example fun (r2956 : Bool) => some r2956
  else
  Rx.Bind (input_Apply w0 x1) fun (r2957 : World_ × Int × Int) =>
  Rx.Bind (caromref43_Apply w0 x1) fun (r2958 : World_ × Int × Int) =>
  Rx.Bind (caromref25_Equal r2957.fst r2958.fst) fun (r2959 : Bool) =>
  Let (r2957.snd.fst == r2958.snd.fst) fun (x2960 : Bool) =>
  Let (bif r2959 then x2960 else false) fun (x2961 : Bool) =>
  Let (r2957.snd.snd == r2958.snd.snd) fun (x2962 : Bool) =>
  Let (bif x2961 then x2962 else false) fun (x2963 : Bool) =>
  Rx.Bind (if (x2963 == true) = true then caromlaw43_example else some default) fun (r2964 : Bool) =>
  Let (bif x2963 then r2964 else false) fun (x2965 : Bool) => some x2965

noncomputable def caromref43_Clone (x0 : Input) : Option Input :=
  Rx.Bind (caromref23_Clone x0.Body) fun (r2966 : Body) =>
  some { Kind := x0.Kind, ID := x0.ID, Vec := x0.Vec, Value := x0.Value, Body := r2966, Joint := x0.Joint : Input }

noncomputable def input_Clone (x0 : Input) : Option Input :=
  Rx.Bind (body_Clone x0.Body) fun (r2967 : Body) =>
  some { Kind := x0.Kind, ID := x0.ID, Vec := x0.Vec, Value := x0.Value, Body := r2967, Joint := x0.Joint : Input }

noncomputable def input_Equal (a0 : Input) (b1 : Input) : Option Bool :=
  Let (a0.Kind == b1.Kind) fun (x2968 : Bool) =>
  Let (a0.ID == b1.ID) fun (x2969 : Bool) =>
  Let (bif x2968 then x2969 else false) fun (x2970 : Bool) =>
  Let (decide (a0.Vec.X = b1.Vec.X) && decide (a0.Vec.Y = b1.Vec.Y)) fun (x2971 : Bool) =>
  Let (bif x2970 then x2971 else false) fun (x2972 : Bool) =>
  Let (a0.Value == b1.Value) fun (x2973 : Bool) =>
  Let (bif x2972 then x2973 else false) fun (x2974 : Bool) =>
  Rx.Bind (if (x2974 == true) = true then body_Equal a0.Body b1.Body else some default) fun (r2975 : Bool) =>
  Let (bif x2974 then r2975 else false) fun (x2976 : Bool) =>
  Let
  (decide (a0.Joint.ID = b1.Joint.ID) &&
  (decide (a0.Joint.Kind = b1.Joint.Kind) &&
  (decide (a0.Joint.BodyA = b1.Joint.BodyA) &&
  (decide (a0.Joint.BodyB = b1.Joint.BodyB) &&
  (decide (a0.Joint.AnchorA.X = b1.Joint.AnchorA.X) && decide (a0.Joint.AnchorA.Y = b1.Joint.AnchorA.Y) &&
  (decide (a0.Joint.AnchorB.X = b1.Joint.AnchorB.X) && decide (a0.Joint.AnchorB.Y = b1.Joint.AnchorB.Y) &&
  (decide (a0.Joint.Axis.X = b1.Joint.Axis.X) && decide (a0.Joint.Axis.Y = b1.Joint.Axis.Y) &&
  (decide (a0.Joint.ReferenceAngle = b1.Joint.ReferenceAngle) &&
  (decide (a0.Joint.EnableLimit = b1.Joint.EnableLimit) &&
  (decide (a0.Joint.Lower = b1.Joint.Lower) &&
  (decide (a0.Joint.Upper = b1.Joint.Upper) &&
  (decide (a0.Joint.EnableMotor = b1.Joint.EnableMotor) &&
  (decide (a0.Joint.MotorSpeed = b1.Joint.MotorSpeed) &&
  (decide (a0.Joint.MaxForce = b1.Joint.MaxForce) &&
  (decide (a0.Joint.Softness = b1.Joint.Softness) &&
  (decide (a0.Joint.BreakForce = b1.Joint.BreakForce) &&
  (decide (a0.Joint.CollideConnected = b1.Joint.CollideConnected) &&
  (decide (a0.Joint.Impulses.fst = b1.Joint.Impulses.fst) &&
  (decide (a0.Joint.Impulses.snd.fst = b1.Joint.Impulses.snd.fst) &&
  (decide (a0.Joint.Impulses.snd.snd.fst = b1.Joint.Impulses.snd.snd.fst) &&
  decide (a0.Joint.Impulses.snd.snd.snd = b1.Joint.Impulses.snd.snd.snd)))))))))))))))))))))
  fun (x2977 : Bool) => Let (bif x2976 then x2977 else false) fun (x2978 : Bool) => some x2978

noncomputable def caromref43_Equal (a0 : Input) (b1 : Input) : Option Bool :=
  Let (a0.Kind == b1.Kind) fun (x2979 : Bool) =>
  Let (a0.ID == b1.ID) fun (x2980 : Bool) =>
  Let (bif x2979 then x2980 else false) fun (x2981 : Bool) =>
  Let (decide (a0.Vec.X = b1.Vec.X) && decide (a0.Vec.Y = b1.Vec.Y)) fun (x2982 : Bool) =>
  Let (bif x2981 then x2982 else false) fun (x2983 : Bool) =>
  Let (a0.Value == b1.Value) fun (x2984 : Bool) =>
  Let (bif x2983 then x2984 else false) fun (x2985 : Bool) =>
  Let
  (decide (a0.Joint.ID = b1.Joint.ID) &&
  (decide (a0.Joint.Kind = b1.Joint.Kind) &&
  (decide (a0.Joint.BodyA = b1.Joint.BodyA) &&
  (decide (a0.Joint.BodyB = b1.Joint.BodyB) &&
  (decide (a0.Joint.AnchorA.X = b1.Joint.AnchorA.X) && decide (a0.Joint.AnchorA.Y = b1.Joint.AnchorA.Y) &&
  (decide (a0.Joint.AnchorB.X = b1.Joint.AnchorB.X) && decide (a0.Joint.AnchorB.Y = b1.Joint.AnchorB.Y) &&
  (decide (a0.Joint.Axis.X = b1.Joint.Axis.X) && decide (a0.Joint.Axis.Y = b1.Joint.Axis.Y) &&
  (decide (a0.Joint.ReferenceAngle = b1.Joint.ReferenceAngle) &&
  (decide (a0.Joint.EnableLimit = b1.Joint.EnableLimit) &&
  (decide (a0.Joint.Lower = b1.Joint.Lower) &&
  (decide (a0.Joint.Upper = b1.Joint.Upper) &&
  (decide (a0.Joint.EnableMotor = b1.Joint.EnableMotor) &&
  (decide (a0.Joint.MotorSpeed = b1.Joint.MotorSpeed) &&
  (decide (a0.Joint.MaxForce = b1.Joint.MaxForce) &&
  (decide (a0.Joint.Softness = b1.Joint.Softness) &&
  (decide (a0.Joint.BreakForce = b1.Joint.BreakForce) &&
  (decide (a0.Joint.CollideConnected = b1.Joint.CollideConnected) &&
  (decide (a0.Joint.Impulses.fst = b1.Joint.Impulses.fst) &&
  (decide (a0.Joint.Impulses.snd.fst = b1.Joint.Impulses.snd.fst) &&
  (decide (a0.Joint.Impulses.snd.snd.fst = b1.Joint.Impulses.snd.snd.fst) &&
  decide (a0.Joint.Impulses.snd.snd.snd = b1.Joint.Impulses.snd.snd.snd)))))))))))))))))))))
  fun (x2986 : Bool) =>
  Let (bif x2985 then x2986 else false) fun (x2987 : Bool) =>
  Rx.Bind (if (x2987 == true) = true then caromref23_Equal a0.Body b1.Body else some default) fun (r2988 : Bool) =>
  Let (bif x2987 then r2988 else false) fun (x2989 : Bool) => some x2989

noncomputable def caromlaw43_InputCloneEqual (a0 : Input) (b1 : Input) : Option Bool :=
  Rx.Bind (caromlaw43_few [a0, b1]) fun (r2990 : Bool) =>
  Let (!r2990) fun (x2991 : Bool) =>
  if x2991 = true then Rx.Bind caromlaw43_example fun (r2992 : Bool) => some r2992
  else
  Rx.Bind (caromref43_Clone a0) fun (r2993 : Input) =>
  Rx.Bind (input_Clone a0) fun (r2994 : Input) =>
  Rx.Bind (input_Equal a0 b1) fun (r2995 : Bool) =>
  Rx.Bind (caromref43_Equal a0 b1) fun (r2996 : Bool) =>
  Let (r2995 != r2996) fun (x2997 : Bool) =>
  Rx.Bind (if (x2997 == false) = true then input_Equal a0 r2994 else some default) fun (r2998 : Bool) =>
  Let (!r2998) fun (x2999 : Bool) =>
  Let (bif x2997 then true else x2999) fun (x3000 : Bool) =>
  Rx.Bind (if (x3000 == false) = true then caromref43_Equal a0 r2994 else some default) fun (r3001 : Bool) =>
  Let (!r3001) fun (x3002 : Bool) =>
  Let (bif x3000 then true else x3002) fun (x3003 : Bool) => if x3003 = true then some false else none

noncomputable def input_ApplyAll (w0 : World_) (inputs1 : (List Input)) : Option (World_ × (List Int)) :=
  Let (↑inputs1.length : Int) fun (x3004 : Int) =>
  Chk
  ((0 : Int) ≤ (0 : Int) ∧
  (0 : Int) ≤ x3004 ∧ (↑(8 : Nat) : Int) * x3004 ≤ (281474976710656 : Int) ∧ x3004 ≤ (9223372036854775807 : Int))
  (Let (List.replicate (0 : Nat) (0 : Int)) fun (x3005 : List Int) =>
  Rx.Bind (world_Validate w0) fun (r3006 : Int) =>
  Let (r3006 != (0 : Int)) fun (x3007 : Bool) =>
  if x3007 = true then
  Let (↑inputs1.length : Int) fun (x3008 : Int) =>
  LOOP
  (fun (rec3009 : List Int × Int → Option (World_ × List Int)) (s3010 : List Int × Int) =>
  Let (decide (s3010.snd < x3008)) fun (x3011 : Bool) =>
  if x3011 = true then
  Chk ((List.length s3010.fst + (1 : Nat)) * (8 : Nat) ≤ (140737488355328 : Nat))
  (Let (s3010.fst ++ [(18 : Int)]) fun (x3012 : List Int) =>
  Let (IntKind.i64.wrap (s3010.snd + (1 : Int))) fun (x3013 : Int) => rec3009 (x3012, x3013))
  else
  some
  ({ Settings := { TimeStep := (0 : Int), Gravity := { X := (0 : Int), Y := (0 : Int) : Vec }, Iterations := (0 : Int), SleepSteps := (0 : Int) : Settings }, Bodies := [], Joints := [], Contacts := [], Overlaps := [], NextID := (0 : Int), Frame := (0 : Int) : World_ },
  s3010.fst))
  fuel (x3005, (0 : Int))
  else
  Rx.Bind (world_Clone w0) fun (r3014 : World_) =>
  Let (↑inputs1.length : Int) fun (x3015 : Int) =>
  LOOP
  (fun (rec3016 : List Int × Int × World_ → Option (World_ × List Int)) (s3017 : List Int × Int × World_) =>
  Let (decide (s3017.snd.fst < x3015)) fun (x3018 : Bool) =>
  if x3018 = true then
  Chk ((0 : Int) ≤ s3017.snd.fst ∧ s3017.snd.fst < (↑inputs1.length : Int))
  (Let (ix inputs1 s3017.snd.fst) fun (x3019 : Input) =>
  Rx.Bind (input_Apply s3017.snd.snd x3019) fun (r3020 : World_ × Int × Int) =>
  Join
  (fun (v3021 : World_) =>
  Chk ((List.length s3017.fst + [r3020.snd.snd].length) * (8 : Nat) ≤ (140737488355328 : Nat))
  (Let (s3017.fst ++ [r3020.snd.snd]) fun (x3022 : List Int) =>
  Let (IntKind.i64.wrap (s3017.snd.fst + (1 : Int))) fun (x3023 : Int) => rec3016 (x3022, x3023, v3021)))
  fun (j3024 : World_ → Option (World_ × List Int)) =>
  Let (r3020.snd.snd == (0 : Int)) fun (x3025 : Bool) => if x3025 = true then j3024 r3020.fst else j3024 s3017.snd.snd)
  else some (s3017.snd.snd, s3017.fst))
  fuel (x3005, (0 : Int), r3014))

noncomputable def caromref43_ApplyAll (w0 : World_) (l1 : (List Input)) : Option (World_ × (List Int)) :=
  Rx.Bind (caromref25_Validate w0) fun (r3026 : Int) =>
  Let (r3026 != (0 : Int)) fun (x3027 : Bool) =>
  if x3027 = true then
  LOOP
  (fun (rec3028 : List Int × Int → Option (World_ × List Int)) (s3029 : List Int × Int) =>
  Let (↑l1.length : Int) fun (x3030 : Int) =>
  Let (decide (s3029.snd < x3030)) fun (x3031 : Bool) =>
  if x3031 = true then
  Chk ((List.length s3029.fst + (1 : Nat)) * (8 : Nat) ≤ (140737488355328 : Nat))
  (Let (s3029.fst ++ [(18 : Int)]) fun (x3032 : List Int) =>
  Let (IntKind.i64.wrap (s3029.snd + (1 : Int))) fun (x3033 : Int) => rec3028 (x3032, x3033))
  else
  some
  ({ Settings := { TimeStep := (0 : Int), Gravity := { X := (0 : Int), Y := (0 : Int) : Vec }, Iterations := (0 : Int), SleepSteps := (0 : Int) : Settings }, Bodies := [], Joints := [], Contacts := [], Overlaps := [], NextID := (0 : Int), Frame := (0 : Int) : World_ },
  s3029.fst))
  fuel ([], (0 : Int))
  else
  Rx.Bind (caromref25_Clone w0) fun (r3034 : World_) =>
  LOOP
  (fun (rec3035 : List Int × Int × World_ → Option (World_ × List Int)) (s3036 : List Int × Int × World_) =>
  Let (↑l1.length : Int) fun (x3037 : Int) =>
  Let (decide (s3036.snd.fst < x3037)) fun (x3038 : Bool) =>
  if x3038 = true then
  Chk ((0 : Int) ≤ s3036.snd.fst ∧ s3036.snd.fst < (↑l1.length : Int))
  (Let (ix l1 s3036.snd.fst) fun (x3039 : Input) =>
  Rx.Bind (caromref43_Apply s3036.snd.snd x3039) fun (r3040 : World_ × Int × Int) =>
  Join
  (fun (v3041 : World_) =>
  Chk ((List.length s3036.fst + [r3040.snd.snd].length) * (8 : Nat) ≤ (140737488355328 : Nat))
  (Let (s3036.fst ++ [r3040.snd.snd]) fun (x3042 : List Int) =>
  Let (IntKind.i64.wrap (s3036.snd.fst + (1 : Int))) fun (x3043 : Int) => rec3035 (x3042, x3043, v3041)))
  fun (j3044 : World_ → Option (World_ × List Int)) =>
  Let (r3040.snd.snd == (0 : Int)) fun (x3045 : Bool) => if x3045 = true then j3044 r3040.fst else j3044 s3036.snd.snd)
  else some (s3036.snd.snd, s3036.fst))
  fuel ([], (0 : Int), r3034)

noncomputable def caromlaw43_InputApplyAll (w0 : World_) (l1 : (List Input)) : Option Bool :=
  Rx.Bind (caromref25_Few w0) fun (r3046 : Bool) =>
  Let (!r3046) fun (x3047 : Bool) =>
  Rx.Bind (if (x3047 == false) = true then caromlaw43_few l1 else some default) fun (r3048 : Bool) =>
  Let (!r3048) fun (x3049 : Bool) =>
  Let (bif x3047 then true else x3049) fun (x3050 : Bool) =>
  if x3050 = true then Rx.Bind caromlaw43_example fun (r3051 : Bool) => some r3051
  else
  Rx.Bind (input_ApplyAll w0 l1) fun (r3052 : World_ × List Int) =>
  Rx.Bind (caromref43_ApplyAll w0 l1) fun (r3053 : World_ × List Int) =>
  Rx.Bind (caromref25_Equal r3052.fst r3053.fst) fun (r3054 : Bool) =>
  Let (!r3054) fun (x3055 : Bool) =>
  Let (↑(List.length r3052.snd) : Int) fun (x3056 : Int) =>
  Let (↑(List.length r3053.snd) : Int) fun (x3057 : Int) =>
  Let (x3056 != x3057) fun (x3058 : Bool) =>
  Let (bif x3055 then true else x3058) fun (x3059 : Bool) =>
  if x3059 = true then some false
  else
  LOOP
  (fun (rec3060 : Int → Option Bool) (s3061 : Int) =>
  Let (↑(List.length r3052.snd) : Int) fun (x3062 : Int) =>
  Let (decide (s3061 < x3062)) fun (x3063 : Bool) =>
  if x3063 = true then
  Chk ((0 : Int) ≤ s3061 ∧ s3061 < (↑(List.length r3052.snd) : Int))
  (Let (ix r3052.snd s3061) fun (x3064 : Int) =>
  Chk ((0 : Int) ≤ s3061 ∧ s3061 < (↑(List.length r3053.snd) : Int))
  (Let (ix r3053.snd s3061) fun (x3065 : Int) =>
  Let (x3064 != x3065) fun (x3066 : Bool) =>
  if x3066 = true then some false else Let (IntKind.i64.wrap (s3061 + (1 : Int))) fun (x3067 : Int) => rec3060 x3067))
  else Rx.Bind caromlaw43_example fun (r3068 : Bool) => some r3068)
  fuel (0 : Int)

noncomputable def caromlaw43_InputStaysValid (w0 : World_) (l1 : (List Input)) : Option Bool :=
  Rx.Bind (caromref25_Few w0) fun (r3069 : Bool) =>
  Let (!r3069) fun (x3070 : Bool) =>
  Rx.Bind (if (x3070 == false) = true then caromlaw43_few l1 else some default) fun (r3071 : Bool) =>
  Let (!r3071) fun (x3072 : Bool) =>
  Let (bif x3070 then true else x3072) fun (x3073 : Bool) =>
  Rx.Bind (if (x3073 == false) = true then world_Validate w0 else some default) fun (r3074 : Int) =>
  Let (r3074 != (0 : Int)) fun (x3075 : Bool) =>
  Let (bif x3073 then true else x3075) fun (x3076 : Bool) =>
  if x3076 = true then Rx.Bind caromlaw43_example fun (r3077 : Bool) => some r3077
  else
  Rx.Bind (caromref25_Clone w0) fun (r3078 : World_) =>
  Rx.Bind (input_ApplyAll w0 l1) fun (r3079 : World_ × List Int) =>
  Rx.Bind (world_Validate r3079.fst) fun (r3080 : Int) =>
  Let (r3080 != (0 : Int)) fun (x3081 : Bool) =>
  Let (↑(List.length r3079.snd) : Int) fun (x3082 : Int) =>
  Let (↑l1.length : Int) fun (x3083 : Int) =>
  Let (x3082 != x3083) fun (x3084 : Bool) =>
  Let (bif x3081 then true else x3084) fun (x3085 : Bool) =>
  Rx.Bind (if (x3085 == false) = true then caromref25_Equal w0 r3078 else some default) fun (r3086 : Bool) =>
  Let (!r3086) fun (x3087 : Bool) =>
  Let (bif x3085 then true else x3087) fun (x3088 : Bool) =>
  Let (r3079.fst.Frame != w0.Frame) fun (x3089 : Bool) =>
  Let (bif x3088 then true else x3089) fun (x3090 : Bool) =>
  Let
  (!(decide (r3079.fst.Settings.TimeStep = w0.Settings.TimeStep) &&
  (decide (r3079.fst.Settings.Gravity.X = w0.Settings.Gravity.X) &&
  decide (r3079.fst.Settings.Gravity.Y = w0.Settings.Gravity.Y) &&
  (decide (r3079.fst.Settings.Iterations = w0.Settings.Iterations) &&
  decide (r3079.fst.Settings.SleepSteps = w0.Settings.SleepSteps)))))
  fun (x3091 : Bool) =>
  Let (bif x3090 then true else x3091) fun (x3092 : Bool) =>
  if x3092 = true then some false
  else
  LOOP
  (fun (rec3093 : Int → Option Bool) (s3094 : Int) =>
  Let (↑l1.length : Int) fun (x3095 : Int) =>
  Let (decide (s3094 < x3095)) fun (x3096 : Bool) =>
  if x3096 = true then
  Chk ((0 : Int) ≤ s3094 ∧ s3094 < (↑(List.length r3079.snd) : Int))
  (Let (ix r3079.snd s3094) fun (x3097 : Int) =>
  Let (x3097 == (0 : Int)) fun (x3098 : Bool) =>
  Chk ((x3098 == true) = true → (0 : Int) ≤ s3094 ∧ s3094 < (↑l1.length : Int))
  (Let (ix l1 s3094) fun (x3099 : Input) =>
  Rx.Bind (if (x3098 == true) = true then input_Validate x3099 else some default) fun (r3100 : Int) =>
  Let (r3100 != (0 : Int)) fun (x3101 : Bool) =>
  Let (bif x3098 then x3101 else false) fun (x3102 : Bool) =>
  if x3102 = true then some false else Let (IntKind.i64.wrap (s3094 + (1 : Int))) fun (x3103 : Int) => rec3093 x3103))
  else Rx.Bind caromlaw43_example fun (r3104 : Bool) => some r3104)
  fuel (0 : Int)

noncomputable def slices_Equal_117 (s10 : (List ContactPoint)) (s21 : (List ContactPoint)) : Option Bool :=
  Let (↑s10.length : Int) fun (x3105 : Int) =>
  Let (↑s21.length : Int) fun (x3106 : Int) =>
  Let (x3105 != x3106) fun (x3107 : Bool) =>
  if x3107 = true then some false
  else
  Let (↑s10.length : Int) fun (x3108 : Int) =>
  LOOP
  (fun (rec3109 : Int → Option Bool) (s3110 : Int) =>
  Let (decide (s3110 < x3108)) fun (x3111 : Bool) =>
  if x3111 = true then
  Chk ((0 : Int) ≤ s3110 ∧ s3110 < (↑s10.length : Int))
  (Let (ix s10 s3110) fun (x3112 : ContactPoint) =>
  Chk ((0 : Int) ≤ s3110 ∧ s3110 < (↑s21.length : Int))
  (Let (ix s21 s3110) fun (x3113 : ContactPoint) =>
  Let
  (!(decide (x3112.Point.X = x3113.Point.X) && decide (x3112.Point.Y = x3113.Point.Y) &&
  (decide (x3112.Separation = x3113.Separation) &&
  (decide (x3112.ID = x3113.ID) &&
  (decide (x3112.NormalImpulse = x3113.NormalImpulse) && decide (x3112.TangentImpulse = x3113.TangentImpulse))))))
  fun (x3114 : Bool) =>
  if x3114 = true then some false else Let (IntKind.i64.wrap (s3110 + (1 : Int))) fun (x3115 : Int) => rec3109 x3115))
  else some true)
  fuel (0 : Int)

noncomputable def manifold_Equal (a0 : Manifold) (b1 : Manifold) : Option Bool :=
  Let (decide (a0.Normal.X = b1.Normal.X) && decide (a0.Normal.Y = b1.Normal.Y)) fun (x3116 : Bool) =>
  Rx.Bind (if (x3116 == true) = true then slices_Equal_117 a0.Points b1.Points else some default) fun (r3117 : Bool) =>
  Let (bif x3116 then r3117 else false) fun (x3118 : Bool) => some x3118

noncomputable def world_Equal_1 (x0 : Contact) (y1 : Contact) : Option Bool :=
  Let
  (decide (x0.Key.BodyA = y1.Key.BodyA) &&
  (decide (x0.Key.FixtureA = y1.Key.FixtureA) &&
  (decide (x0.Key.BodyB = y1.Key.BodyB) && decide (x0.Key.FixtureB = y1.Key.FixtureB))))
  fun (x3119 : Bool) =>
  Rx.Bind (if (x3119 == true) = true then manifold_Equal x0.Manifold y1.Manifold else some default) fun (r3120 : Bool) =>
  Let (bif x3119 then r3120 else false) fun (x3121 : Bool) => some x3121

noncomputable def slices_EqualFunc (s10 : (List Body)) (s21 : (List Body)) (eq2 : ((Body × Body) → Option Bool)) : Option Bool :=
  Let (↑s10.length : Int) fun (x3122 : Int) =>
  Let (↑s21.length : Int) fun (x3123 : Int) =>
  Let (x3122 != x3123) fun (x3124 : Bool) =>
  if x3124 = true then some false
  else
  Let (↑s10.length : Int) fun (x3125 : Int) =>
  LOOP
  (fun (rec3126 : Int → Option Bool) (s3127 : Int) =>
  Let (decide (s3127 < x3125)) fun (x3128 : Bool) =>
  if x3128 = true then
  Chk ((0 : Int) ≤ s3127 ∧ s3127 < (↑s10.length : Int))
  (Let (ix s10 s3127) fun (x3129 : Body) =>
  Chk ((0 : Int) ≤ s3127 ∧ s3127 < (↑s21.length : Int))
  (Let (ix s21 s3127) fun (x3130 : Body) =>
  Rx.Bind (eq2 (x3129, x3130)) fun (r3131 : Bool) =>
  Let (!r3131) fun (x3132 : Bool) =>
  if x3132 = true then some false else Let (IntKind.i64.wrap (s3127 + (1 : Int))) fun (x3133 : Int) => rec3126 x3133))
  else some true)
  fuel (0 : Int)

noncomputable def slices_Equal (s10 : (List Joint)) (s21 : (List Joint)) : Option Bool :=
  Let (↑s10.length : Int) fun (x3134 : Int) =>
  Let (↑s21.length : Int) fun (x3135 : Int) =>
  Let (x3134 != x3135) fun (x3136 : Bool) =>
  if x3136 = true then some false
  else
  Let (↑s10.length : Int) fun (x3137 : Int) =>
  LOOP
  (fun (rec3138 : Int → Option Bool) (s3139 : Int) =>
  Let (decide (s3139 < x3137)) fun (x3140 : Bool) =>
  if x3140 = true then
  Chk ((0 : Int) ≤ s3139 ∧ s3139 < (↑s10.length : Int))
  (Let (ix s10 s3139) fun (x3141 : Joint) =>
  Chk ((0 : Int) ≤ s3139 ∧ s3139 < (↑s21.length : Int))
  (Let (ix s21 s3139) fun (x3142 : Joint) =>
  Let
  (!(decide (x3141.ID = x3142.ID) &&
  (decide (x3141.Kind = x3142.Kind) &&
  (decide (x3141.BodyA = x3142.BodyA) &&
  (decide (x3141.BodyB = x3142.BodyB) &&
  (decide (x3141.AnchorA.X = x3142.AnchorA.X) && decide (x3141.AnchorA.Y = x3142.AnchorA.Y) &&
  (decide (x3141.AnchorB.X = x3142.AnchorB.X) && decide (x3141.AnchorB.Y = x3142.AnchorB.Y) &&
  (decide (x3141.Axis.X = x3142.Axis.X) && decide (x3141.Axis.Y = x3142.Axis.Y) &&
  (decide (x3141.ReferenceAngle = x3142.ReferenceAngle) &&
  (decide (x3141.EnableLimit = x3142.EnableLimit) &&
  (decide (x3141.Lower = x3142.Lower) &&
  (decide (x3141.Upper = x3142.Upper) &&
  (decide (x3141.EnableMotor = x3142.EnableMotor) &&
  (decide (x3141.MotorSpeed = x3142.MotorSpeed) &&
  (decide (x3141.MaxForce = x3142.MaxForce) &&
  (decide (x3141.Softness = x3142.Softness) &&
  (decide (x3141.BreakForce = x3142.BreakForce) &&
  (decide (x3141.CollideConnected = x3142.CollideConnected) &&
  (decide (x3141.Impulses.fst = x3142.Impulses.fst) &&
  (decide (x3141.Impulses.snd.fst = x3142.Impulses.snd.fst) &&
  (decide (x3141.Impulses.snd.snd.fst = x3142.Impulses.snd.snd.fst) &&
  decide (x3141.Impulses.snd.snd.snd = x3142.Impulses.snd.snd.snd))))))))))))))))))))))
  fun (x3143 : Bool) =>
  if x3143 = true then some false else Let (IntKind.i64.wrap (s3139 + (1 : Int))) fun (x3144 : Int) => rec3138 x3144))
  else some true)
  fuel (0 : Int)

noncomputable def slices_EqualFunc_61 (s10 : (List Contact)) (s21 : (List Contact)) (eq2 : ((Contact × Contact) → Option Bool)) : Option Bool :=
  Let (↑s10.length : Int) fun (x3145 : Int) =>
  Let (↑s21.length : Int) fun (x3146 : Int) =>
  Let (x3145 != x3146) fun (x3147 : Bool) =>
  if x3147 = true then some false
  else
  Let (↑s10.length : Int) fun (x3148 : Int) =>
  LOOP
  (fun (rec3149 : Int → Option Bool) (s3150 : Int) =>
  Let (decide (s3150 < x3148)) fun (x3151 : Bool) =>
  if x3151 = true then
  Chk ((0 : Int) ≤ s3150 ∧ s3150 < (↑s10.length : Int))
  (Let (ix s10 s3150) fun (x3152 : Contact) =>
  Chk ((0 : Int) ≤ s3150 ∧ s3150 < (↑s21.length : Int))
  (Let (ix s21 s3150) fun (x3153 : Contact) =>
  Rx.Bind (eq2 (x3152, x3153)) fun (r3154 : Bool) =>
  Let (!r3154) fun (x3155 : Bool) =>
  if x3155 = true then some false else Let (IntKind.i64.wrap (s3150 + (1 : Int))) fun (x3156 : Int) => rec3149 x3156))
  else some true)
  fuel (0 : Int)

noncomputable def slices_Equal_62 (s10 : (List PairKey)) (s21 : (List PairKey)) : Option Bool :=
  Let (↑s10.length : Int) fun (x3157 : Int) =>
  Let (↑s21.length : Int) fun (x3158 : Int) =>
  Let (x3157 != x3158) fun (x3159 : Bool) =>
  if x3159 = true then some false
  else
  Let (↑s10.length : Int) fun (x3160 : Int) =>
  LOOP
  (fun (rec3161 : Int → Option Bool) (s3162 : Int) =>
  Let (decide (s3162 < x3160)) fun (x3163 : Bool) =>
  if x3163 = true then
  Chk ((0 : Int) ≤ s3162 ∧ s3162 < (↑s10.length : Int))
  (Let (ix s10 s3162) fun (x3164 : PairKey) =>
  Chk ((0 : Int) ≤ s3162 ∧ s3162 < (↑s21.length : Int))
  (Let (ix s21 s3162) fun (x3165 : PairKey) =>
  Let
  (!(decide (x3164.BodyA = x3165.BodyA) &&
  (decide (x3164.FixtureA = x3165.FixtureA) &&
  (decide (x3164.BodyB = x3165.BodyB) && decide (x3164.FixtureB = x3165.FixtureB)))))
  fun (x3166 : Bool) =>
  if x3166 = true then some false else Let (IntKind.i64.wrap (s3162 + (1 : Int))) fun (x3167 : Int) => rec3161 x3167))
  else some true)
  fuel (0 : Int)

noncomputable def world_Equal (a0 : World_) (b1 : World_) : Option Bool :=
  Let
  (decide (a0.Settings.TimeStep = b1.Settings.TimeStep) &&
  (decide (a0.Settings.Gravity.X = b1.Settings.Gravity.X) && decide (a0.Settings.Gravity.Y = b1.Settings.Gravity.Y) &&
  (decide (a0.Settings.Iterations = b1.Settings.Iterations) && decide (a0.Settings.SleepSteps = b1.Settings.SleepSteps))))
  fun (x3168 : Bool) =>
  Let (a0.NextID == b1.NextID) fun (x3169 : Bool) =>
  Let (bif x3168 then x3169 else false) fun (x3170 : Bool) =>
  Let (a0.Frame == b1.Frame) fun (x3171 : Bool) =>
  Let (bif x3170 then x3171 else false) fun (x3172 : Bool) =>
  Rx.Bind
  (if (x3172 == true) = true then
  slices_EqualFunc a0.Bodies b1.Bodies fun (a : Tup tb [Ix.tBody, Ix.tBody]) => body_Equal a.fst a.snd
  else some default)
  fun (r3173 : Bool) =>
  Let (bif x3172 then r3173 else false) fun (x3174 : Bool) =>
  Rx.Bind (if (x3174 == true) = true then slices_Equal a0.Joints b1.Joints else some default) fun (r3175 : Bool) =>
  Let (bif x3174 then r3175 else false) fun (x3176 : Bool) =>
  Rx.Bind
  (if (x3176 == true) = true then
  slices_EqualFunc_61 a0.Contacts b1.Contacts fun (a : Tup tb [Ix.tContact, Ix.tContact]) => world_Equal_1 a.fst a.snd
  else some default)
  fun (r3177 : Bool) =>
  Let (bif x3176 then r3177 else false) fun (x3178 : Bool) =>
  Rx.Bind (if (x3178 == true) = true then slices_Equal_62 a0.Overlaps b1.Overlaps else some default) fun (r3179 : Bool) =>
  Let (bif x3178 then r3179 else false) fun (x3180 : Bool) => some x3180

noncomputable def caromlaw43_InputSequence (w0 : World_) (l1 : (List Input)) (cut2 : UInt8) : Option Bool :=
  Rx.Bind (caromref25_Few w0) fun (r3181 : Bool) =>
  Let (!r3181) fun (x3182 : Bool) =>
  Rx.Bind (if (x3182 == false) = true then caromlaw43_few l1 else some default) fun (r3183 : Bool) =>
  Let (!r3183) fun (x3184 : Bool) =>
  Let (bif x3182 then true else x3184) fun (x3185 : Bool) =>
  Rx.Bind (if (x3185 == false) = true then world_Validate w0 else some default) fun (r3186 : Int) =>
  Let (r3186 != (0 : Int)) fun (x3187 : Bool) =>
  Let (bif x3185 then true else x3187) fun (x3188 : Bool) =>
  if x3188 = true then Rx.Bind caromlaw43_example fun (r3189 : Bool) => some r3189
  else
  Let (↑cut2.toNat : Int) fun (x3190 : Int) =>
  Let (↑l1.length : Int) fun (x3191 : Int) =>
  Let (IntKind.i64.wrap (x3191 + (1 : Int))) fun (x3192 : Int) =>
  Chk (x3192 ≠ (0 : Int))
  (Let (x3190.tmod x3192) fun (x3193 : Int) =>
  Rx.Bind (input_ApplyAll w0 l1) fun (r3194 : World_ × List Int) =>
  Chk ((0 : Int) ≤ x3193 ∧ x3193 ≤ (↑l1.length : Int))
  (Let (List.take x3193.toNat l1) fun (x3195 : List Input) =>
  Rx.Bind (input_ApplyAll w0 x3195) fun (r3196 : World_ × List Int) =>
  Chk ((0 : Int) ≤ x3193 ∧ x3193 ≤ (↑l1.length : Int))
  (Let (List.drop x3193.toNat l1) fun (x3197 : List Input) =>
  Rx.Bind (input_ApplyAll r3196.fst x3197) fun (r3198 : World_ × List Int) =>
  Rx.Bind (world_Equal r3194.fst r3198.fst) fun (r3199 : Bool) =>
  Let (!r3199) fun (x3200 : Bool) =>
  Let (↑(List.length r3194.snd) : Int) fun (x3201 : Int) =>
  Let (↑l1.length : Int) fun (x3202 : Int) =>
  Let (x3201 != x3202) fun (x3203 : Bool) =>
  Let (bif x3200 then true else x3203) fun (x3204 : Bool) =>
  Let (↑(List.length r3196.snd) : Int) fun (x3205 : Int) =>
  Let (↑(List.length r3198.snd) : Int) fun (x3206 : Int) =>
  Let (IntKind.i64.wrap (x3205 + x3206)) fun (x3207 : Int) =>
  Let (↑(List.length r3194.snd) : Int) fun (x3208 : Int) =>
  Let (x3207 != x3208) fun (x3209 : Bool) =>
  Let (bif x3204 then true else x3209) fun (x3210 : Bool) =>
  if x3210 = true then some false
  else
  LOOP
  (fun (rec3211 : Int → Option Bool) (s3212 : Int) =>
  Let (↑(List.length r3196.snd) : Int) fun (x3213 : Int) =>
  Let (decide (s3212 < x3213)) fun (x3214 : Bool) =>
  if x3214 = true then
  Chk ((0 : Int) ≤ s3212 ∧ s3212 < (↑(List.length r3196.snd) : Int))
  (Let (ix r3196.snd s3212) fun (x3215 : Int) =>
  Chk ((0 : Int) ≤ s3212 ∧ s3212 < (↑(List.length r3194.snd) : Int))
  (Let (ix r3194.snd s3212) fun (x3216 : Int) =>
  Let (x3215 != x3216) fun (x3217 : Bool) =>
  if x3217 = true then some false else Let (IntKind.i64.wrap (s3212 + (1 : Int))) fun (x3218 : Int) => rec3211 x3218))
  else
  LOOP
  (fun (rec3219 : Int → Option Bool) (s3220 : Int) =>
  Let (↑(List.length r3198.snd) : Int) fun (x3221 : Int) =>
  Let (decide (s3220 < x3221)) fun (x3222 : Bool) =>
  if x3222 = true then
  Chk ((0 : Int) ≤ s3220 ∧ s3220 < (↑(List.length r3198.snd) : Int))
  (Let (ix r3198.snd s3220) fun (x3223 : Int) =>
  Let (IntKind.i64.wrap (x3193 + s3220)) fun (x3224 : Int) =>
  Chk ((0 : Int) ≤ x3224 ∧ x3224 < (↑(List.length r3194.snd) : Int))
  (Let (ix r3194.snd x3224) fun (x3225 : Int) =>
  Let (x3223 != x3225) fun (x3226 : Bool) =>
  if x3226 = true then some false else Let (IntKind.i64.wrap (s3220 + (1 : Int))) fun (x3227 : Int) => rec3219 x3227))
  else Rx.Bind caromlaw43_example fun (r3228 : Bool) => some r3228)
  fuel (0 : Int))
  fuel (0 : Int))))

end GoForm
